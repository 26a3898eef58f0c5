/- WHAT SERVES THE TABLES' STATEMENTS, part 1: D1. No statement of the seat is proved here. -/
import Derived.Test.YtpfofefecamkfaaGreatDoorG0
import Derived.Still
import Derived.StillTail
import Derived.Deep.LoopGhost
import Derived.Lib.SliceRun
import Derived.Shelf.Abstract
import Derived.Laws.ResultCell
import Derived.Deep.OwnRows
import Derived.Deep.CutRange
import Derived.Deep.RegionWith
import Derived.Deep.RegionHeld3
import Init.Data.List.Lemmas
namespace Go.Proofs.YtpfofefecamkfaaGreatDoor
open Go.RowKit
set_option maxRecDepth 100000

section
section
open Go.RowKit

/-- what is known of a temporary: its value, or a word on it -/
inductive Slot where
 | is (v:Value)
 | has (p:Value → World → Prop)

def Slot.holds:Slot → Value → World → Prop
 | .is v,u,_ => u = v
 | .has p,u,w => p u w
@[go_sem] def Slot.lit:Slot → Value
 | .is v => v
 | .has _ => undef
def Slot.exact:Slot → Bool
 | .is _ => true
 | .has _ => false
@[go_sem] def lits (ss:List Slot):Array Value:=(ss.map Slot.lit).toArray
def slotAt (ss:List Slot) (t:Nat):Slot:=ss[t]?.getD (.is undef)
def putS (ss:List Slot) (d:Option Tmp) (s:Slot):List Slot :=
 match d with
 | some d => ss.set d s
 | none => ss

theorem putS_length (ss:List Slot) (d:Option Tmp) (s:Slot):(putS ss d s).length = ss.length:=by cases d <;> simp [putS]
theorem slotAt_putS_ne {ss:List Slot} {d:Option Tmp} {s:Slot} {t:Nat} (h:d ≠ some t):slotAt (putS ss d s) t = slotAt ss t:=by
 cases d with
 | none => rfl
 | some d =>
   have:d ≠ t:=fun e => h (by rw [e])
   simp [slotAt,putS,List.getElem?_set_ne this]
theorem slotAt_putS_eq {ss:List Slot} {s:Slot} {t:Nat} (h:t < ss.length):slotAt (putS ss (some t) s) t = s:=by
 simp [slotAt,putS,h]
theorem putS_comm (ss:List Slot) {x y:Option Tmp} (s u:Slot) (h:∀ d,x = some d → y ≠ some d):putS (putS ss x s) y u = putS (putS ss y u) x s:=by
 cases x with
 | none => rfl
 | some d =>
   cases y with
   | none => rfl
   | some e =>
     have hne:d ≠ e:=fun he => h d rfl (he ▸ rfl)
     simp only [putS]
     exact List.set_comm _ _ hne

/-- how a world may grow: reflexive, transitive -/
structure Grow (E:World → World → Prop):Prop where
 refl:∀ w,E w w
 trans:∀ {a b c},E a b → E b c → E a c

def Slot.mono (E:World → World → Prop) (s:Slot):Prop:=∀ u w w',E w w' → s.holds u w → s.holds u w'
theorem mono_is {E:World → World → Prop} (v:Value):(Slot.is v).mono E:=fun _ _ _ _ h => h

def growAt (P:Program) (E:World → World → Prop) (s:Slot) (w:World):Result Next → Prop
 | .ok (.value v) w' => E w w' ∧ s.holds v w'
 | .ok .skip w' => E w w' ∧ s.holds undef w'
 | .ok (.enter f args) w' => E w w' ∧ Calls P f args w' (fun e w'' => ∃ v,e = .returned v ∧ E w' w'' ∧ s.holds v w'')
 | _ => False

section
variable {P:Program} {ops:Array Oper} {md:Region.Mode} {E:World → World → Prop} {w0:World}

/-- operation o gives s, in whatever frame and world what is known of the temporaries that it looks at -/
def Good (P:Program) (ops:Array Oper) (E:World → World → Prop) (w0:World) (ss:List Slot) (o:Oper) (s:Slot):Prop :=
 s.mono E ∧ ∀ (a:Act) (w:World),E w0 w → a.tmps.size = ss.length → (∀ t ∈ o.looksAt ops,(slotAt ss t).holds (a.tmps.getD t undef) w) →
  if Region.wanted o (yielded ops a.tmps) = true then growAt P E s w ((execOp a.eval o).run P w) else s = .is undef

/-- the walk in the order of the text -/
def wpA (P:Program) (ops:Array Oper) (E:World → World → Prop) (w0:World) (Q:List Slot → Prop):List Oper → List Slot → Prop
 | [],ss => Q ss
 | o :: rest,ss => ∃ s,Good P ops E w0 ss o s ∧ wpA P ops E w0 Q rest (putS ss o.dst s)

def aOp (P:Program) (ops:Array Oper) (E:World → World → Prop) (w0:World) (i:Nat) (K:List Slot → Prop) (ss:List Slot):Prop :=
 match ops[i]? with
 | none => K ss
 | some o => ∃ s,Good P ops E w0 ss o s ∧ K (putS ss o.dst s)

theorem aOp_mono {i:Nat} {ss:List Slot} {K K':List Slot → Prop} (h:∀ ss,K ss → K' ss) (hh:aOp P ops E w0 i K ss):aOp P ops E w0 i K' ss:=by
 unfold aOp at *
 split
 ·rename_i ho;simp only [ho] at hh;exact h _ hh
 ·rename_i o ho
  simp only [ho] at hh
  obtain ⟨s,h1,h2⟩:=hh
  exact ⟨s,h1,h _ h2⟩

theorem Good.congr {ss ss':List Slot} {o:Oper} {s:Slot} (h:Good P ops E w0 ss o s) (hl:ss'.length = ss.length) (hs:∀ t ∈ o.looksAt ops,slotAt ss' t = slotAt ss t):Good P ops E w0 ss' o s :=
 ⟨h.1,fun a w hw hz hk => h.2 a w hw (hz.trans hl) fun t ht => by have:=hk t ht;rwa [hs t ht] at this⟩

theorem Good.aOp {i:Nat} {o:Oper} {s:Slot} {ss:List Slot} (hi:ops[i]? = some o) (hg:Good P ops E w0 ss o s) {K:List Slot → Prop} (h:K (putS ss o.dst s)):aOp P ops E w0 i K ss:=by
 unfold Go.Proofs.YtpfofefecamkfaaGreatDoor.aOp
 simp only [hi]
 exact ⟨s,hg,h⟩

theorem good_of_aOp {i:Nat} {o:Oper} {ss:List Slot} {K:List Slot → Prop} (hi:ops[i]? = some o) (h:aOp P ops E w0 i K ss):∃ s,Good P ops E w0 ss o s ∧ K (putS ss o.dst s):=by
 unfold aOp at h
 simpa only [hi] using h

/-- operation oj, apart from oi: whether oi has run makes no difference to it, and it makes none to oi -/
theorem aOp_put {j:Nat} {oi oj:Oper} {s:Slot} (hj:ops[j]? = some oj) (hap:oi.apart ops oj = true) {K:List Slot → Prop} {ss:List Slot}
 (hy:Good P ops E w0 ss oi s) (h:aOp P ops E w0 j K (putS ss oi.dst s)) :
 aOp P ops E w0 j (fun ss' => Good P ops E w0 ss' oi s ∧ K (putS ss' oi.dst s)) ss:=by
 obtain ⟨h1,h2,h3⟩:=Oper.apart_spec hap
 obtain ⟨u,hu,hk⟩:=good_of_aOp hj h
 refine Good.aOp hj (s:=u) (hu.congr (putS_length _ _ _).symm fun t ht => ?_) ⟨hy.congr (putS_length _ _ _) fun t ht => ?_,?_⟩
 ·exact (slotAt_putS_ne fun e => h1 t e ht).symm
 ·exact slotAt_putS_ne fun e => h3 t e ht
 ·rw [← putS_comm ss s u h2];exact hk

/-! ### From what is known to the frame -/
structure Sat (E:World → World → Prop) (ds:List Deferred) (ss:List Slot) (a:Act) (w:World):Prop where
 size:a.tmps.size = ss.length
 defers:a.defers = ds
 mono:∀ t,(slotAt ss t).mono E
 holds:∀ t,(slotAt ss t).holds (a.tmps.getD t undef) w

theorem Sat.put {ds:List Deferred} {ss:List Slot} {a:Act} {w w':World} {d:Option Tmp} {s:Slot} {v:Value} (h:Sat E ds ss a w) (he:E w w') (hs:s.mono E) (hv:s.holds v w') :
 Sat E ds (putS ss d s) (a.put d v) w':=by
 cases d with
 | none => exact ⟨h.size,h.defers,h.mono,fun t => h.mono t _ _ _ he (h.holds t)⟩
 | some d =>
   refine ⟨by simp [Act.put,putS,h.size],h.defers,fun t => ?_,fun t => ?_⟩
   ·by_cases ht:d = t
    ·subst ht
     by_cases hd:d < ss.length
     ·rw [slotAt_putS_eq hd];exact hs
     ·have:slotAt (putS ss (some d) s) d = slotAt ss d:=by simp [slotAt,putS,hd]
      rw [this];exact h.mono d
    ·rw [slotAt_putS_ne (fun e => ht (Option.some.inj e))];exact h.mono t
   ·by_cases ht:d = t
    ·subst ht
     by_cases hd:d < ss.length
     ·rw [slotAt_putS_eq hd]
      have:(a.put (some d) v).tmps.getD d undef = v:=by simp [Act.put,h.size,hd]
      rw [this];exact hv
     ·have e1:slotAt (putS ss (some d) s) d = slotAt ss d:=by simp [slotAt,putS,hd]
      have e2:(a.put (some d) v).tmps.getD d undef = a.tmps.getD d undef:=by simp [Act.put,h.size,hd]
      rw [e1,e2];exact h.mono d _ _ _ he (h.holds d)
    ·rw [slotAt_putS_ne (fun e => ht (Option.some.inj e))]
     have e2:(a.put (some d) v).tmps.getD t undef = a.tmps.getD t undef:=by simp [Act.put,Array.getElem?_setIfInBounds_ne ht]
     rw [e2];exact h.mono t _ _ _ he (h.holds t)

theorem wpOp_of_aOp (G:Grow E) {ds:List Deferred} {i:Nat} {ss:List Slot} {a:Act} {w:World} {K:List Slot → Prop} {K':Act → World → Prop} {Q':Exit → Act → World → Prop}
 (hw:E w0 w) (hs:Sat E ds ss a w) (h:∀ ss' a' w',E w0 w' → Sat E ds ss' a' w' → K ss' → K' a' w') (hh:aOp P ops E w0 i K ss):wpOp P ops Q' i K' a w:=by
 unfold aOp at hh
 unfold wpOp
 split
 ·rename_i ho;simp only [ho] at hh;exact h _ _ _ hw hs hh
 ·rename_i o ho
  simp only [ho] at hh
  obtain ⟨s,⟨hm,hg⟩,hk⟩:=hh
  have h1:=hg a w hw hs.size (fun t _ => hs.holds t)
  split
  ·rename_i hwt
   rw [if_pos hwt] at h1
   refine .inl ?_
   unfold Oper.wp
   generalize (execOp a.eval o).run P w = r at *
   cases r with
   | ok n w' =>
     cases n <;> simp only [growAt] at h1 <;> simp only [Oper.upon]
     case value v => exact h _ _ _ (G.trans hw h1.1) (hs.put h1.1 hm h1.2) hk
     case skip => exact h _ _ _ (G.trans hw h1.1) (hs.put h1.1 hm h1.2) hk
     case enter f args =>
      refine h1.2.mono fun e w'' he => ?_
      obtain ⟨v,rfl,he2,hv⟩:=he
      have he3:=G.trans h1.1 he2
      exact h _ _ _ (G.trans hw he3) (hs.put he3 hm hv) hk
   | halt x w' => simp only [growAt] at h1
  ·rename_i hwt
   rw [if_neg hwt] at h1
   subst h1
   exact h _ _ _ hw (hs.put (G.refl w) hm rfl) hk

/-! ### Whatever order is picked -/
def wpAnyA (P:Program) (md:Region.Mode) (ops:Array Oper) (E:World → World → Prop) (w0:World) (Q:List Slot → Prop):Nat → Array Bool → List Slot → Prop
 | 0,listed,ss => Region.ready md ops listed = [] ∧ Q ss
 | fuel + 1,listed,ss =>
   (Region.ready md ops listed = [] → Q ss) ∧ ∀ i ∈ Region.ready md ops listed,aOp P ops E w0 i (wpAnyA P md ops E w0 Q fuel (listed.setIfInBounds i true)) ss

theorem wpAny_of_abs (G:Grow E) {ds:List Deferred} {Q:List Slot → Prop} {Q':Exit → Act → World → Prop} (hQ:∀ ss a w,E w0 w → Sat E ds ss a w → Q ss → Q' .normal a w) :
 ∀ (fuel:Nat) (listed:Array Bool) (ss:List Slot) (a:Act) (w:World),E w0 w → Sat E ds ss a w → wpAnyA P md ops E w0 Q fuel listed ss → wpAny P md ops Q' fuel listed a w
 | 0,_,_,_,_,hw,hs,h => ⟨h.1,hQ _ _ _ hw hs h.2⟩
 | fuel + 1,_,_,_,_,hw,hs,h => ⟨fun h0 => hQ _ _ _ hw hs (h.1 h0),fun i hi => wpOp_of_aOp G hw hs (fun _ _ _ hw' hs' => wpAny_of_abs G hQ fuel _ _ _ _ hw' hs') (h.2 i hi)⟩

theorem wpAnyA_first {Q:List Slot → Prop} {i:Nat} {oi:Oper} {s:Slot} (hi:ops[i]? = some oi) :
 ∀ (fuel:Nat) (listed:Array Bool) (ss:List Slot),
  (∀ j oj,ops[j]? = some oj → j ≠ i → listed.getD j true = false → (∀ e ∈ oj.after,Region.binds md e = true → e.on ≠ i) → oi.apart ops oj = true) →
  i ∈ Region.ready md ops listed → Good P ops E w0 ss oi s →
  wpAnyA P md ops E w0 Q fuel (listed.setIfInBounds i true) (putS ss oi.dst s) → wpAnyA P md ops E w0 Q (fuel + 1) listed ss:=by
 intro fuel
 induction fuel with
 | zero =>
   intro listed ss _ hr hy H
   refine ⟨fun h => (by rw [h] at hr;cases hr),fun j hj => ?_⟩
   by_cases hji:j = i
   ·subst hji;exact hy.aOp hi H
   ·have:=ready_mono hj hji
    rw [H.1] at this
    cases this
 | succ fuel ih =>
   intro listed ss hfree hr hy H
   refine ⟨fun h => (by rw [h] at hr;cases hr),fun j hj => ?_⟩
   by_cases hji:j = i
   ·subst hji;exact hy.aOp hi H
   ·have h1:=H.2 j (ready_mono hj hji)
    obtain ⟨hjun,oj,hoj,hall⟩:=mem_ready.1 hj
    have hnot:∀ e ∈ oj.after,Region.binds md e = true → e.on ≠ i:=fun e he hb heq => by
     have h1:=hall e he hb
     rw [heq,getD_both (mem_ready.1 hr).1] at h1
     cases h1
    have h2:=aOp_put hoj (hfree j oj hoj hji hjun hnot) hy h1
    have hfree':∀ k ok,ops[k]? = some ok → k ≠ i → (listed.setIfInBounds j true).getD k true = false →
     (∀ e ∈ ok.after,Region.binds md e = true → e.on ≠ i) → oi.apart ops ok = true:=fun k ok hk hki hun hno => by
     refine hfree k ok hk hki ?_ hno
     by_cases hjk:j = k
     ·subst hjk;exact hjun
     ·rw [getD_set_ne true hjk] at hun;exact hun
    refine aOp_mono (fun ss' h3 => ih (listed.setIfInBounds j true) ss' hfree' (ready_mono hr (Ne.symm hji)) h3.1 ?_) h2
    rw [Array.setIfInBounds_comm _ _ hji]
    exact h3.2

theorem wpAnyA_lex {Q:List Slot → Prop}:∀ (l:List Oper) (k:Nat) (listed:Array Bool) (ss:List Slot),(∀ j,l[j]? = ops[k + j]?) →
 Region.lexFrom md ops l.length k listed = true → wpA P ops E w0 Q l ss → wpAnyA P md ops E w0 Q l.length listed ss
 | [],_,_,_,_,hB,h => ⟨by simpa [Region.lexFrom] using hB,h⟩
 | o :: l,k,listed,ss,hl,hB,h => by
   have h0:ops[k]? = some o:=by simpa using (hl 0).symm
   simp only [List.length_cons,Region.lexFrom,Bool.and_eq_true] at hB
   obtain ⟨⟨hr,hf⟩,hB'⟩:=hB
   obtain ⟨s,hg,hk⟩:=h
   exact wpAnyA_first h0 l.length listed ss (Region.free_spec h0 hf) (by simpa using hr) hg
    (wpAnyA_lex l (k + 1) _ _ (fun j => by have:=hl (j + 1);simpa [Nat.add_assoc,Nat.add_comm 1 j] using this) hB' hk)

/-! ### Of a head, with a tail in one order -/
def wpAnyT (P:Program) (md:Region.Mode) (ops:Array Oper) (E:World → World → Prop) (w0:World) (n:Nat) (L:Array Bool → List Slot → Prop):Nat → Array Bool → List Slot → Prop
 | 0,listed,ss => L listed ss
 | f + 1,listed,ss =>
   Region.ready md ops listed ≠ [] ∧ ∀ i ∈ Region.ready md ops listed,i < n ∧ aOp P ops E w0 i (wpAnyT P md ops E w0 n L f (listed.setIfInBounds i true)) ss

theorem wpAny_of_headA (G:Grow E) {ds:List Deferred} {n g:Nat} {L:Array Bool → List Slot → Prop} {Q':Exit → Act → World → Prop} (hL:∀ listed ss a w,E w0 w → Sat E ds ss a w → L listed ss → wpAny P md ops Q' g listed a w) :
 ∀ (f:Nat) (listed:Array Bool) (ss:List Slot) (a:Act) (w:World),E w0 w → Sat E ds ss a w → wpAnyT P md ops E w0 n L f listed ss → wpAny P md ops Q' (f + g) listed a w
 | 0,listed,ss,a,w,hw,hs,h => by rw [Nat.zero_add];exact hL _ _ _ _ hw hs h
 | f + 1,listed,ss,a,w,hw,hs,h => by
   rw [show f + 1 + g = (f + g) + 1 by omega]
   exact ⟨fun h0 => absurd h0 h.1,fun i hi => wpOp_of_aOp G hw hs (fun ss' a' w' hw' hs' h' => wpAny_of_headA G hL f _ _ _ _ hw' hs' h') (h.2 i hi).2⟩

theorem wpAnyT_first {n i:Nat} {oi:Oper} {s:Slot} {L:Array Bool → List Slot → Prop} (hi:ops[i]? = some oi)
 (hs:Region.sinkB md ops n = true) (hc:Region.chainB md ops n = true) (hn:n < ops.size) (hin:i < n)
 (hdone:∀ listed ss,L listed ss → ∀ j ∈ Region.ready md ops listed,n ≤ j) :
 ∀ (f:Nat) (listed:Array Bool) (ss:List Slot),HeadInv md ops n listed →
  (∀ j oj,ops[j]? = some oj → j ≠ i → listed.getD j true = false → (∀ e ∈ oj.after,Region.binds md e = true → e.on ≠ i) → oi.apart ops oj = true) →
  i ∈ Region.ready md ops listed → Good P ops E w0 ss oi s →
  wpAnyT P md ops E w0 n L f (listed.setIfInBounds i true) (putS ss oi.dst s) → wpAnyT P md ops E w0 n L (f + 1) listed ss:=by
 intro f
 induction f with
 | zero =>
   intro listed ss inv _ hr hy H
   have hun:=(mem_ready.1 hr).1
   refine ⟨fun h => (by rw [h] at hr;cases hr),fun j hj => ?_⟩
   have hjn:j < n:=by
    rcases Nat.lt_or_ge j n with h | h
    ·exact h
    ·exact absurd hj (tail_waits hs hc hn inv _ i rfl hin hun j h)
   refine ⟨hjn,?_⟩
   by_cases hji:j = i
   ·subst hji;exact hy.aOp hi H
   ·have:=hdone _ _ H j (ready_mono hj hji)
    omega
 | succ f ih =>
   intro listed ss inv hfree hr hy H
   have hun:=(mem_ready.1 hr).1
   refine ⟨fun h => (by rw [h] at hr;cases hr),fun j hj => ?_⟩
   have hjn:j < n:=by
    rcases Nat.lt_or_ge j n with h | h
    ·exact h
    ·exact absurd hj (tail_waits hs hc hn inv _ i rfl hin hun j h)
   refine ⟨hjn,?_⟩
   by_cases hji:j = i
   ·subst hji;exact hy.aOp hi H
   ·have h1:=(H.2 j (ready_mono hj hji)).2
    obtain ⟨hjun,oj,hoj,hall⟩:=mem_ready.1 hj
    have hnot:∀ e ∈ oj.after,Region.binds md e = true → e.on ≠ i:=fun e he hb heq => by
     have h1:=hall e he hb
     rw [heq,getD_both hun] at h1
     cases h1
    have h2:=aOp_put hoj (hfree j oj hoj hji hjun hnot) hy h1
    have hfree':∀ k ok,ops[k]? = some ok → k ≠ i → (listed.setIfInBounds j true).getD k true = false →
     (∀ e ∈ ok.after,Region.binds md e = true → e.on ≠ i) → oi.apart ops ok = true:=fun k ok hk hki hun hno => by
     refine hfree k ok hk hki ?_ hno
     by_cases hjk:j = k
     ·subst hjk;exact hjun
     ·rw [getD_set_ne true hjk] at hun;exact hun
    refine aOp_mono (fun ss' h3 => ih (listed.setIfInBounds j true) ss' (inv.set hj hjn) hfree' (ready_mono hr (Ne.symm hji)) h3.1 ?_) h2
    rw [Array.setIfInBounds_comm _ _ hji]
    exact h3.2

theorem wpAnyT_lex {n g:Nat} {Lq:List Slot → Prop} (hs:Region.sinkB md ops n = true) (hc:Region.chainB md ops n = true) (hn:n < ops.size) :
 ∀ (l:List Oper) (k:Nat) (listed:Array Bool) (ss:List Slot),(∀ j,j < l.length → l[j]? = ops[k + j]?) → k + l.length = n → HeadInv md ops n listed →
 Region.lexHead md ops g l.length k listed = true → wpA P ops E w0 Lq l ss →
 wpAnyT P md ops E w0 n (fun listed' ss' => Region.seqB md ops g n listed' = true ∧ Lq ss') l.length listed ss
 | [],k,listed,ss,_,hk,_,hB,h => by
   have:k = n:=by simpa using hk
   subst this
   exact ⟨by simpa [Region.lexHead] using hB,h⟩
 | o :: l,k,listed,ss,hl,hk,inv,hB,h => by
   have h0:ops[k]? = some o:=by simpa using (hl 0 (by simp)).symm
   simp only [List.length_cons,Region.lexHead,Bool.and_eq_true] at hB
   obtain ⟨⟨hr,hf⟩,hB'⟩:=hB
   have hkn:k < n:=by simp only [List.length_cons] at hk;omega
   have hr':k ∈ Region.ready md ops listed:=by simpa using hr
   obtain ⟨s,hg,hK⟩:=h
   exact wpAnyT_first h0 hs hc hn hkn (fun listed' ss' hL => seqB_ready hL.1) l.length listed ss inv (Region.free_spec h0 hf) hr' hg
    (wpAnyT_lex hs hc hn l (k + 1) _ _ (fun j hj => by have:=hl (j + 1) (by simp;omega);simpa [Nat.add_assoc,Nat.add_comm 1 j] using this) (by simp only [List.length_cons] at hk;omega) (inv.set hr' hkn) hB' hK)

/-! ### The steps of the walk -/
theorem execOp_looks {o:Oper} (hs:∀ cs b,o.op ≠ .select cs b) {a a':Act} (h:∀ t ∈ o.looksAt ops,a.tmps.getD t undef = a'.tmps.getD t undef) :
 execOp a.eval o = execOp a'.eval o :=
 execOp_congr o hs fun x hx => by
  cases x with
  | tmp t =>
    have ht:t ∈ o.looksAt ops:=List.mem_append_left _ (List.mem_filterMap.2 ⟨.tmp t,by simpa using hx,rfl⟩)
    simpa [Act.eval] using h t ht
  | _ => rfl
theorem wanted_looks {o:Oper} {a a':Act} (hz:a.tmps.size = a'.tmps.size) (h:∀ t ∈ o.looksAt ops,a.tmps.getD t undef = a'.tmps.getD t undef) :
 Region.wanted o (yielded ops a.tmps) = Region.wanted o (yielded ops a'.tmps):=by
 unfold Region.wanted
 cases hg:o.guard with
 | none => rfl
 | some g =>
   obtain ⟨j,b⟩:=g
   simp only
   have e:yielded ops a.tmps j = yielded ops a'.tmps j:=by
    unfold yielded
    cases hd:(ops[j]?).bind (·.dst) with
    | none => simp_all
    | some d =>
      have hd':d ∈ o.looksAt ops:=List.mem_append_right _ (by simp [hg,hd])
      have h1:=h d hd'
      by_cases hlt:d < a.tmps.size
      ·have hlt':d < a'.tmps.size:=hz ▸ hlt
       simp [hlt,hlt'] at h1
       simp_all
      ·have hlt':¬ d < a'.tmps.size:=hz ▸ hlt
       simp_all
   rw [e]

/-- a frame in which temporaries t of ss have the values us says, the others those that are known -/
theorem lits_get (ss:List Slot) (t:Nat):(lits ss).getD t undef = (slotAt ss t).lit:=by
 unfold lits slotAt
 rcases Nat.lt_or_ge t ss.length with h | h
 ·simp [h]
 ·simp [h,Slot.lit]
theorem lits_size (ss:List Slot):(lits ss).size = ss.length:=by simp [lits]

section
variable {Q:List Slot → Prop} {o:Oper} {rest:List Oper} {ss:List Slot}

/-- an operation whose guard says no -/
theorem wpA_skip (hk:(o.looksAt ops).all (fun t => (slotAt ss t).exact) = true) (hg:Region.wanted o (yielded ops (lits ss)) = false)
 (h:wpA P ops E w0 Q rest (putS ss o.dst (.is undef))):wpA P ops E w0 Q (o :: rest) ss:=by
 refine ⟨.is undef,⟨mono_is _,fun a w _ hz hl => ?_⟩,h⟩
 have e:Region.wanted o (yielded ops a.tmps) = Region.wanted o (yielded ops (lits ss)) :=
  wanted_looks (a':=⟨lits ss,[]⟩) (by simp [hz,lits_size]) fun t ht => by
   have h1:=hl t ht
   have h2:=List.all_eq_true.1 hk t ht
   rw [lits_get]
   cases hs:slotAt ss t with
   | is v => rw [hs] at h1;exact h1
   | has p => rw [hs] at h2;cases h2
 rw [e,hg]
 rfl

theorem good_exact {s:Slot} (hsel:∀ cs b,o.op ≠ .select cs b) (hk:(o.looksAt ops).all (fun t => (slotAt ss t).exact) = true) (hg:Region.wanted o (yielded ops (lits ss)) = true) (hm:s.mono E)
 (h:∀ w,E w0 w → growAt P E s w ((execOp (Act.eval ⟨lits ss,[]⟩) o).run P w)):Good P ops E w0 ss o s:=by
 refine ⟨hm,fun a w hw hz hl => ?_⟩
 have heq:∀ t ∈ o.looksAt ops,a.tmps.getD t undef = (⟨lits ss,[]⟩:Act).tmps.getD t undef:=fun t ht => by
  have h1:=hl t ht
  have h2:=List.all_eq_true.1 hk t ht
  simp only [lits_get]
  cases hs:slotAt ss t with
  | is v => rw [hs] at h1;exact h1
  | has p => rw [hs] at h2;cases h2
 rw [wanted_looks (a':=⟨lits ss,[]⟩) (by simp [hz,lits_size]) heq,hg,if_pos rfl,execOp_looks hsel heq]
 exact h w hw

/-- an operation over known values that yields one value, in every world -/
theorem wpA_value (G:Grow E) (v:Value) (hsel:∀ cs b,o.op ≠ .select cs b) (hk:(o.looksAt ops).all (fun t => (slotAt ss t).exact) = true) (hg:Region.wanted o (yielded ops (lits ss)) = true)
 (h:∀ w,E w0 w → ∀ C:Result Next → Prop,C (.ok (.value v) w) → C ((execOp (Act.eval ⟨lits ss,[]⟩) o).run P w)) (hn:wpA P ops E w0 Q rest (putS ss o.dst (.is v))):wpA P ops E w0 Q (o :: rest) ss :=
 ⟨.is v,good_exact hsel hk hg (mono_is _) fun w hw => h w hw (growAt P E (.is v) w) ⟨G.refl w,rfl⟩,hn⟩

/-- an operation over known values, of whatever kind (a call) -/
theorem wpA_known (s:Slot) (hsel:∀ cs b,o.op ≠ .select cs b) (hk:(o.looksAt ops).all (fun t => (slotAt ss t).exact) = true) (hg:Region.wanted o (yielded ops (lits ss)) = true) (hm:s.mono E)
 (h:∀ w,E w0 w → growAt P E s w ((execOp (Act.eval ⟨lits ss,[]⟩) o).run P w)) (hn:wpA P ops E w0 Q rest (putS ss o.dst s)):wpA P ops E w0 Q (o :: rest) ss :=
 ⟨s,good_exact hsel hk hg hm h,hn⟩

theorem good_one {s:Slot} (t:Nat) (p:Value → World → Prop) (ht:slotAt ss t = .has p) (htl:t < ss.length) (hsel:∀ cs b,o.op ≠ .select cs b)
 (hk:(o.looksAt ops).all (fun i => i == t || (slotAt ss i).exact) = true) (hin:(o.looksAt ops).contains t = true) (hg:∀ u,Region.wanted o (yielded ops ((lits ss).setIfInBounds t u)) = true) (hm:s.mono E)
 (h:∀ u w,E w0 w → p u w → growAt P E s w ((execOp (Act.eval ⟨(lits ss).setIfInBounds t u,[]⟩) o).run P w)):Good P ops E w0 ss o s:=by
 refine ⟨hm,fun a w hw hz hl => ?_⟩
 have hp:p (a.tmps.getD t undef) w:=by
  have:=hl t (by simpa using hin)
  rw [ht] at this
  exact this
 have heq:∀ i ∈ o.looksAt ops,a.tmps.getD i undef = (⟨(lits ss).setIfInBounds t (a.tmps.getD t undef),[]⟩:Act).tmps.getD i undef:=fun i hi => by
  by_cases hit:t = i
  ·subst hit
   simp [lits_size,htl]
  ·have h1:=hl i hi
   have h2:=List.all_eq_true.1 hk i hi
   have e3:((lits ss).setIfInBounds t (a.tmps.getD t undef)).getD i undef = (lits ss).getD i undef:=by simp [Array.getElem?_setIfInBounds_ne hit]
   have hne:(i == t) = false:=by simpa using fun e => hit e.symm
   rw [hne,Bool.false_or] at h2
   show _ = ((lits ss).setIfInBounds t (a.tmps.getD t undef)).getD i undef
   rw [e3,lits_get]
   cases hs:slotAt ss i with
   | is v => rw [hs] at h1;exact h1
   | has p => rw [hs] at h2;cases h2
 rw [wanted_looks (a':=⟨(lits ss).setIfInBounds t (a.tmps.getD t undef),[]⟩) (by simp [hz,lits_size]) heq,hg,if_pos rfl,execOp_looks hsel heq]
 exact h _ w hw hp

/-- an operation that looks at one temporary of which a word is known -/
theorem wpA_one (t:Nat) (p:Value → World → Prop) (s:Slot) (ht:slotAt ss t = .has p) (htl:t < ss.length) (hsel:∀ cs b,o.op ≠ .select cs b)
 (hk:(o.looksAt ops).all (fun i => i == t || (slotAt ss i).exact) = true) (hin:(o.looksAt ops).contains t = true) (hg:∀ u,Region.wanted o (yielded ops ((lits ss).setIfInBounds t u)) = true) (hm:s.mono E)
 (h:∀ u w,E w0 w → p u w → growAt P E s w ((execOp (Act.eval ⟨(lits ss).setIfInBounds t u,[]⟩) o).run P w)) (hn:wpA P ops E w0 Q rest (putS ss o.dst s)):wpA P ops E w0 Q (o :: rest) ss :=
 ⟨s,good_one t p ht htl hsel hk hin hg hm h,hn⟩
end

/-! ### At the end: the frame written out -/
def openS:List Slot → (List Value → World → Prop) → World → Prop
 | [],K,w => K [] w
 | .is v :: r,K,w => openS r (fun l w => K (v :: l) w) w
 | .has p :: r,K,w => ∀ u,p u w → openS r (fun l w => K (u :: l) w) w

theorem openS_spec:∀ (ss:List Slot) (K:List Value → World → Prop) (w:World) (l:List Value),l.length = ss.length → (∀ t,(slotAt ss t).holds (l[t]?.getD undef) w) → openS ss K w → K l w
 | [],K,w,l,hl,_,h => by
   have:l = []:=List.eq_nil_of_length_eq_zero (by simpa using hl)
   subst this
   exact h
 | s :: r,K,w,l,hl,hh,h => by
   cases l with
   | nil => simp at hl
   | cons x l =>
     have h0:=hh 0
     have ht:∀ t,(slotAt r t).holds (l[t]?.getD undef) w:=fun t => by have:=hh (t + 1);simpa [slotAt] using this
     simp only [slotAt,List.getElem?_cons_zero,Option.getD_some] at h0
     cases s with
     | is v =>
       have h0':x = v:=h0
       subst h0'
       exact openS_spec r _ w l (by simpa using hl) ht h
     | has p => exact openS_spec r _ w l (by simpa using hl) ht (h x h0)

theorem sat_start (E:World → World → Prop) (l:List Value) (ds:List Deferred) (w:World):Sat E ds (l.map Slot.is) ⟨l.toArray,ds⟩ w:=by
 have e:∀ t,slotAt (l.map Slot.is) t = .is (l[t]?.getD undef):=fun t => by
  unfold slotAt
  rcases Nat.lt_or_ge t l.length with h | h
  ·simp [h]
  ·simp [h]
 refine ⟨by simp,rfl,fun t => by rw [e t];exact mono_is _,fun t => ?_⟩
 rw [e t]
 simp [Slot.holds]

/-- what stands behind the region: asked of the frame written out -/
def doneS (E:World → World → Prop) (w0:World) (K:Act → World → Prop) (ds:List Deferred) (ss:List Slot):Prop :=
 ∀ w,E w0 w → openS ss (fun l w => K ⟨l.toArray,ds⟩ w) w

theorem doneS_spec {K:Act → World → Prop} {ds:List Deferred} {ss:List Slot} {a:Act} {w:World} (hw:E w0 w) (hs:Sat E ds ss a w) (h:doneS E w0 K ds ss):K a w:=by
 obtain ⟨⟨l⟩,d⟩:=a
 have hd:d = ds:=hs.defers
 subst hd
 exact openS_spec ss _ w l (by simpa using hs.size) (fun t => by have:=hs.holds t;simpa using this) (h w hw)

/-- **A REGION THAT DRAWS ITS ORDER, BY ONE WALK** -/
theorem wp_region_abs {id:Nat} {Q:Exit → Act → World → Prop} {l:List Value} {ds:List Deferred} {w:World} {lo:List Oper} (G:Grow E) (hm:P.follows .mixedOrders = true) (hB:Region.lexB .any lo.toArray = true)
 (h:wpA P lo.toArray E w.drew (doneS E w.drew (Q .normal) ds) lo (l.map Slot.is)):(Code.region id lo.toArray true).wp P Q ⟨l.toArray,ds⟩ w:=by
 simp only [Region.lexB,Bool.and_eq_true] at hB
 refine wp_region_any hm ?_
 have H:=wpAnyA_lex (md:=.any) (P:=P) (E:=E) (w0:=w.drew) lo 0 (Array.replicate lo.toArray.size false) (l.map Slot.is) (by simp) (by simpa using hB.2) h
 have:=wpAny_of_abs (Q':=Q) (md:=.any) (ops:=lo.toArray) G (fun ss a w' hw hs hq => doneS_spec hw hs hq) lo.length _ (l.map Slot.is) ⟨l.toArray,ds⟩ w.drew (G.refl _) (sat_start E l ds _) H
 simpa using this

/-- the same, the last operations in the one order that they have -/
theorem wp_region_abs_tail {id:Nat} {Q:Exit → Act → World → Prop} {l:List Value} {ds:List Deferred} {w:World} {lo:List Oper} (n:Nat) (G:Grow E) (hm:P.follows .mixedOrders = true) (hB:Region.lexTailB .any lo.toArray n = true)
 (h:wpA P lo.toArray E w.drew (doneS E w.drew (fun a' w' => wpList P lo.toArray Q (lo.drop n) a' w') ds) (lo.take n) (l.map Slot.is)):(Code.region id lo.toArray true).wp P Q ⟨l.toArray,ds⟩ w:=by
 simp only [Region.lexTailB,Bool.and_eq_true,decide_eq_true_eq] at hB
 obtain ⟨⟨⟨⟨_,hn⟩,hs⟩,hc⟩,hlex⟩:=hB
 have hn':n < lo.length:=by simpa using hn
 have htl:(lo.take n).length = n:=by simp;omega
 have hdl:(lo.drop n).length = lo.toArray.size - n:=by simp
 have inv0:HeadInv .any lo.toArray n (Array.replicate lo.toArray.size false) :=
  ⟨by simp,fun j oj _ hl => (by rw [getD_replicate_false] at hl;cases hl),fun t _ ht => getD_in (by simpa using ht) (getD_replicate_false _ _)⟩
 have H:=wpAnyT_lex (md:=.any) (P:=P) (E:=E) (w0:=w.drew) (g:=lo.toArray.size - n) hs hc hn (lo.take n) 0 _ (l.map Slot.is) (fun j hj => by
  have hj':j < n:=by rw [htl] at hj;exact hj
  simp [hj']) (by simpa using htl) inv0 (by rw [htl];exact hlex) h
 refine wp_region_any hm ?_
 have:=wpAny_of_headA (Q':=Q) (g:=lo.toArray.size - n) G (fun listed ss a' w' hw hs' hL => by
  have hq:=doneS_spec hw hs' hL.2
  have:=wpAny_of_seq (md:=.any) (Q':=Q) (lo.drop n) n listed a' w' (fun j => by simp [List.getElem?_drop]) (by rw [hdl];exact hL.1) hq
  rwa [hdl] at this) _ _ _ ⟨l.toArray,ds⟩ w.drew (G.refl _) (sat_start E l ds _) H
 rw [htl,show n + (lo.toArray.size - n) = lo.toArray.size by omega] at this
 exact this
end

/-! ### The growth in use: what was there is as it was -/
def Ext (w w':World):Prop:=Below w.heap.size w w'
theorem ext_grow:Grow Ext:=⟨fun w => Below.refl _ w,fun h k => Below.trans h (Below.mono k h.size)⟩
/-- a slice of bytes that reads l -/
def BytesR (l:List UInt8) (v:Value) (w:World):Prop:=∃ A c,v = .slice A l.length c ∧ Rd w w.heap.size 1 A l.length c (bytesV l)
theorem mono_bytes (l:List UInt8):(Slot.has (BytesR l)).mono Ext:=fun _ _ _ he ⟨A,c,e,h⟩ => ⟨A,c,e,(h.below he).more he.size⟩
/-- the call gives the bytes l in a row of its own -/
theorem bytes_ret {e:Ending} {w w':World} {l:List UInt8} {v:Value} {base:Nat} {t:TypeId} (he:e = .returned v) (ho:w'.ownsRow base t 1 v l.length (bytesV l)) (hb:Below w.heap.size w w') :
 ∃ v,e = .returned v ∧ Ext w w' ∧ (Slot.has (BytesR l)).holds v w':=by
 obtain ⟨A,c,rfl,hr⟩:=Rd.of_own ho
 exact ⟨_,he,hb,A,c,rfl,hr⟩
theorem is_ret {e:Ending} {w w':World} {v:Value} (he:e = .returned v) (hb:Below w.heap.size w w'):∃ u,e = .returned u ∧ Ext w w' ∧ (Slot.is v).holds u w':=⟨v,he,hb,rfl⟩

end


theorem below_dN {B:Nat} {a w:World} (h:Below B a w) (n:Nat):Below B a (w.drewN n):=⟨h.os,h.tape,h.output,h.size,h.block⟩
theorem tyFields:STy Tryz.prog 31 89 4 32 (.agg #[.int .u32 0,.string ByteArray.empty,.int .u8 0,.bool false]):=⟨Tryz.underlying31,by kernel_rfl,rfl,by decide,by decide⟩
theorem fdsV_take (l:List Fd) (k:Nat):(fdsV l).take (k * 4) = fdsV (l.take k):=by
 induction l generalizing k with
 | nil => simp [fdsV]
 | cons f l ih =>
   cases k with
   | zero => simp [fdsV]
   | succ k => rw [fdsV_cons,List.take_succ_cons,fdsV_cons,show (k + 1) * 4 = (fdV f).length + k * 4 by rw [fdV_length];omega,List.take_length_add_append,ih]


/-- the first place at which p holds, or -1 -/
def idxF (p:Fd → Bool) (l:List Fd):Int:=if l.any p then (l.findIdx p:Int) else -1
theorem idxF_hit {p:Fd → Bool} {l:List Fd} {k:Nat} (hk:k < l.length) (h:p (l.getD k default) = true) (hn:∀ j,j < k → p (l.getD j default) = false):idxF p l = (k:Int):=by
 have hk':p l[k] = true:=by simpa [List.getD,hk] using h
 have ha:l.any p = true:=List.any_eq_true.2 ⟨l[k],List.getElem_mem hk,hk'⟩
 unfold idxF
 rw [if_pos ha]
 congr 1
 rw [List.findIdx_eq hk]
 refine ⟨hk',fun j hj => ?_⟩
 have:=hn j hj
 simpa [List.getD,show j < l.length by omega] using this
theorem any_none {p:Fd → Bool} {l:List Fd} (h:∀ j,j < l.length → p (l.getD j default) = false):l.any p = false:=by
 rw [List.any_eq_false]
 intro f hf
 obtain ⟨j,hj,rfl⟩:=List.mem_iff_getElem.1 hf
 have:=h j hj
 simp [List.getD,hj] at this
 simp [this]
theorem idxF_none {p:Fd → Bool} {l:List Fd} (h:∀ j,j < l.length → p (l.getD j default) = false):idxF p l = -1:=by
 unfold idxF
 rw [any_none h]
 rfl
theorem idxF_ge (p:Fd → Bool) (l:List Fd):decide ((0:Int) ≤ idxF p l) = l.any p:=by
 unfold idxF
 cases l.any p <;> simp

/-- what a closure gives, whatever was laid meanwhile -/
def PredF (w:World) (g:Nat) (lb:Array Value) (p:Fd → Bool):Prop :=
 ∀ (W:World) (f:Fd),Below w.heap.size w W → Calls Tryz.prog g (#[.agg #[.int .u32 (f.id.toNat:Int),.string f.name,.int .u8 (f.kind.toNat:Int),.bool f.need]] ++ lb) W fun e w' => e = .returned (.bool (p f)) ∧ Below w.heap.size w w'

set_option maxHeartbeats 1000000 in
theorem indexF (w:World) (B n c:Nat) (A:Option Addr) (l:List Fd) (hr:Rd w B 4 A n c (fdsV l)) (hB:B ≤ w.heap.size) (hmax:l.length ≤ 1000000) (g:Nat) (lb:Array Value) (p:Fd → Bool)
 (eg:∀ args w,(callFunc g args).run Tryz.prog w = .ok (.enter g args) w) (hp:PredF w g lb p) :
 Calls Tryz.prog 152 #[.slice A n c,.func (.func g) #[] lb] w fun e w' => e = .returned (.int .i64 (idxF p l)) ∧ Below w.heap.size w w':=by
 obtain rfl:=hr.lenF
 have hr:=hr.more hB
 clear hB
 go_enter Tryz.func152,Tryz.ntmps152
 go_wp2_with fail
 go_loopw [5,8] (fun _ kv wr => ∃ k:Nat,k ≤ l.length ∧ kv = .int .i64 (k:Int) ∧ Hid (∀ j,j < k → p (l.getD j default) = false) ∧ Hid (Below w.heap.size w wr)) (fun _ kv _ => l.length - (intOf kv).toNat)
 case atStart => exact ⟨0,Nat.zero_le _,rfl,hide (fun j h => by omega),hide (Below.refl _ _)⟩
 case round =>
  obtain ⟨k,hk,rfl,hf,hbr⟩:=hrel
  by_cases hlt:k < l.length
  ·obtain ⟨b,off,rfl,hb,f0,f1,f2,f3⟩:=(hr.below hbr.out).fd hlt
   have hcall:=hp wr (l.getD k default) hbr.out
   generalize hff:l.getD k default = f at *
   have HF:=hide hff
   clear hff hp
   cases hq:p f with
   | true =>
     rw [hq] at hcall
     have HQ:=hide hq
     clear hq
     go_wp2_with fail
     refine hcall.mono ?_
     rintro e w' ⟨rfl,hb'⟩
     go_wp2_with fail
     go_ret
     exact ⟨by rw [idxF_hit hlt (by rw [HF.out];exact HQ.out) hf.out];rfl,hb'⟩
   | false =>
     rw [hq] at hcall
     have HQ:=hide hq
     clear hq
     go_wp2_with fail
     refine hcall.mono ?_
     rintro e w' ⟨rfl,hb'⟩
     go_wp2_with fail
     go_roundw
     case rel =>
      refine ⟨k + 1,by omega,by go_num,hide (fun j hj => ?_),hide hb'⟩
      by_cases e:j = k
      ·rw [e,HF.out];exact HQ.out
      ·exact hf.out j (by omega)
     case measure => exact meas_sub k _ hlt
  ·obtain rfl:k = l.length:=by omega
   go_wp2_with fail
   go_ret
   exact ⟨by rw [idxF_none hf.out];rfl,hbr.out⟩

theorem containsF (w:World) (B n c:Nat) (A:Option Addr) (l:List Fd) (hr:Rd w B 4 A n c (fdsV l)) (hB:B ≤ w.heap.size) (hmax:l.length ≤ 1000000) (g:Nat) (lb:Array Value) (p:Fd → Bool)
 (eg:∀ args w,(callFunc g args).run Tryz.prog w = .ok (.enter g args) w) (hp:PredF w g lb p) :
 Calls Tryz.prog 81 #[.slice A n c,.func (.func g) #[] lb] w fun e w' => e = .returned (.bool (l.any p)) ∧ Below w.heap.size w w':=by
 have hc:=indexF w B n c A l hr hB hmax g lb p eg hp
 rw [← idxF_ge]
 generalize idxF p l = r at *
 clear hr eg hp
 go_enter Tryz.func81,Tryz.ntmps81
 go_wp2_with fail
 refine hc.mono ?_
 rintro e w' ⟨rfl,hb⟩
 go_wp2_with fail
 go_ret
 exact ⟨rfl,hb⟩

/-- 'g.Name == f.Name', f behind a pointer -/
theorem predName (w:World) (bf off:Nat) (s:ByteArray) (hbf:bf < w.heap.size) (hc:w.cell? ⟨bf,off + 1,none⟩ = some (.string s)) :
 PredF w 82 #[.pointer (some ⟨bf,off,none⟩)] (fun f => f.name.toList == s.toList):=fun W f hb => by
 have h1:=(hb.cell (p:=⟨bf,off + 1,none⟩) hbf).trans hc
 have hBW:bf < W.heap.size:=Nat.lt_of_lt_of_le hbf hb.size
 have hne:bf ≠ W.heap.size:=Nat.ne_of_lt hBW
 show Calls Tryz.prog 82 #[.agg #[.int .u32 (f.id.toNat:Int),.string f.name,.int .u8 (f.kind.toNat:Int),.bool f.need],.pointer (some ⟨bf,off,none⟩)] W _
 clear hc
 go_enter Tryz.func82,Tryz.ntmps82
 go_wp2_with fail
 go_ret
 exact ⟨rfl,hb.alloc hb.size _⟩
theorem enter58:∀ args w,(callFunc 82 args).run Tryz.prog w = .ok (.enter 82 args) w:=enters_of Tryz.func82 (by kernel_rfl) rfl
theorem cloneF (w:World) (B n c:Nat) (A:Option Addr) (xs:List Value) (hr:Rd w B 4 A n c xs) (h1:∀ u ∈ xs,u.oneCell' = true) (hb:n * 32 ≤ 140737488355328) (hB:B ≤ w.heap.size) :
 Calls Tryz.prog 84 #[.slice A n c] w (RetRow w 89 4 n xs):=by
 have heq:=fun W => Lib.run_eql_slice_nil (P:=Tryz.prog) W 31 89 A n c 0 0 Tryz.underlying31
 cases A with
 | none =>
   obtain ⟨rfl,rfl⟩:=hr.none_
   go_enter Tryz.func84,Tryz.ntmps84
   go_wp2_with fail
   go_ret
   exact ⟨_,rfl,World.ownsRow_nil _ _ _ _,Below.refl _ _⟩
 | some ad =>
   have hlit:=own_lit w (base:=w.heap.size) 89 4 0 #[] (Nat.le_refl _) (by decide) rfl
   have hr':=hr.alloc hB (.cells #[] 89)
   go_enter Tryz.func84,Tryz.ntmps84
   go_wp2_with (at_builtin;refine wpList_app _ tyFields rfl _ _ rfl w.heap.size _ 0 [] rfl hlit B (some ad) _ c _ rfl hr' h1 (by omega) (by simp) ?_;intro v2 w2 hown2 hg2 _;simp only [Nat.zero_add,List.nil_append] at hown2;have hb2:=below_app ((Below.refl w.heap.size w).alloc (Nat.le_refl _) (.cells #[] 89)) (Nat.le_refl _) hlit hg2 (by simp))
   go_ret
   exact ⟨v2,rfl,hown2,hb2⟩


theorem schRight (w:World) (k:Nat) (hk:k < 256):Calls Tryz.prog 83 #[.int .u8 (k:Int)] w fun e w' => e = .returned (.bool (decide (1 ≤ k ∧ k ≤ 3))) ∧ w = w':=by
 by_cases h1:1 ≤ k
 ·have s1:decide ((1:Int) ≤ (k:Int)) = true:=decide_eq_true (by omega)
  by_cases h2:k ≤ 3
  ·have s2:decide ((k:Int) ≤ 3) = true:=decide_eq_true (by omega)
   rw [decide_eq_true ⟨h1,h2⟩]
   go_enter Tryz.func83,Tryz.ntmps83
   go_wp2_with fail
   go_ret
   exact ⟨rfl,rfl⟩
  ·have s2:decide ((k:Int) ≤ 3) = false:=decide_eq_false (by omega)
   rw [decide_eq_false (by omega)]
   go_enter Tryz.func83,Tryz.ntmps83
   go_wp2_with fail
   go_ret
   exact ⟨rfl,rfl⟩
 ·have s1:decide ((1:Int) ≤ (k:Int)) = false:=decide_eq_false (by omega)
  rw [decide_eq_false (by omega)]
  go_enter Tryz.func83,Tryz.ntmps83
  go_wp2_with fail
  go_ret
  exact ⟨rfl,rfl⟩
theorem wasId_next {l:List Fd} {k:Nat}:wasId l (k + 1) = (l.getD k default).id.toNat:=by unfold wasId;simp

set_option maxHeartbeats 2000000 in
theorem schCheck (w:World) (id:UInt32) (n c:Nat) (A:Option Addr) (l:List Fd) (hr:Rd w w.heap.size 4 A n c (fdsV l)) :
 Calls Tryz.prog 36 #[.agg #[.int .u32 (id.toNat:Int),.slice A n c]] w fun e w' => e = .returned (.int .i64 (check id l:Int)) ∧ Below w.heap.size w w':=by
 obtain rfl:=hr.lenF
 have hidb:=id.toNat_lt
 by_cases h0:id.toNat < 1 ∨ l.length < 1 ∨ 8 < l.length
 ·have e0:check id l = 1:=by unfold check;rw [if_pos h0]
  rw [e0]
  have h0':decide ((id.toNat:Int) < 1) = true ∨ (decide ((id.toNat:Int) < 1) = false ∧ decide ((l.length:Int) < 1) = true) ∨ (decide ((id.toNat:Int) < 1) = false ∧ decide ((l.length:Int) < 1) = false ∧ decide ((8:Int) < (l.length:Int)) = true):=by
   by_cases q1:id.toNat = 0
   ·exact .inl (by rw [q1];rfl)
   ·have q2:decide ((id.toNat:Int) < 1) = false:=decide_eq_false (by omega)
    by_cases q3:l.length = 0
    ·exact .inr (.inl ⟨q2,by rw [q3];rfl⟩)
    ·exact .inr (.inr ⟨q2,decide_eq_false (by omega),decide_eq_true (by omega)⟩)
  clear h0 e0
  rcases h0' with t1 | ⟨t1,t2⟩ | ⟨t1,t2,t3⟩
  all_goals
   go_enter Tryz.func36,Tryz.ntmps36
   go_wp2_with fail
   go_ret
   exact ⟨rfl,(Below.refl _ _).alloc (Nat.le_refl _) _⟩
 ·have e0:check id l = errFrom l l.length 0:=by unfold check;rw [if_neg h0]
  rw [e0]
  have t1:decide ((id.toNat:Int) < 1) = false:=decide_eq_false (by omega)
  have t2:decide ((l.length:Int) < 1) = false:=decide_eq_false (by omega)
  have t3:decide ((8:Int) < (l.length:Int)) = false:=decide_eq_false (by omega)
  have hl8:l.length ≤ 8:=by omega
  clear h0 e0
  go_enter Tryz.func36,Tryz.ntmps36
  go_wp2_with fail
  obtain ⟨w1,hw1⟩:∃ w1,w1 = w.alloc (.cells #[.int .u32 (id.toNat:Int),.slice A l.length c] 33):=⟨_,rfl⟩
  have hb1:Below w.heap.size w w1:=by rw [hw1];exact (Below.refl _ _).alloc (Nat.le_refl _) _
  have hs1:w.heap.size < w1.heap.size:=by rw [hw1];simp
  have c1:w1.cell? ⟨w.heap.size,1,none⟩ = some (.slice A l.length c):=by rw [hw1];simp
  have hr1:=(hr.below hb1).more hb1.size
  rw [← hw1]
  clear hw1
  obtain ⟨bx,hbx⟩:∃ bx,bx = w.heap.size:=⟨_,rfl⟩
  rw [← hbx] at hs1 c1 ⊢
  have HBX:=hide hbx
  clear hbx
  go_loopw [3,24] (fun pv iv wr => ∃ k:Nat,k ≤ l.length ∧ pv = .int .u32 (wasId l k:Int) ∧ iv = .int .i64 (k:Int) ∧ Hid (errFrom l (l.length - k) k = errFrom l l.length 0) ∧ Below w1.heap.size w1 wr) (fun _ iv _ => l.length - (intOf iv).toNat)
  case atStart => exact ⟨0,Nat.zero_le _,rfl,rfl,hide rfl,Below.refl _ _⟩
  case round =>
   obtain ⟨k,hk,rfl,rfl,hf,hbr⟩:=hrel
   have hbW:=hbr
   by_cases hlt:k < l.length
   ·obtain ⟨b,off,rfl,hb,f0,f1,f2,f3⟩:=(hr1.below hbr).fd hlt
    generalize hff:l.getD k default = f at *
    have HF:=hide hff
    clear hff
    generalize hws:wasId l k = pid at *
    have HWS:=hide hws
    clear hws
    by_cases hle:f.id.toNat ≤ pid
    ·have z1:decide ((f.id.toNat:Int) ≤ (pid:Int)) = true:=decide_eq_true (by omega)
     have he:=hide (hf.out.symm.trans (errFrom_at hlt (errAt_81 HF.out (by rw [HWS.out];exact hle)) (by decide)))
     go_wp2_with fail
     go_ret
     exact ⟨by rw [he.out];rfl,below_call hb1 hb1.size (hbr.alloc hbr.size _)⟩
    ·have h81:Hid (¬ f.id.toNat ≤ wasId l k):=hide (by rw [HWS.out];exact hle)
     go_wp2_with fail
     obtain ⟨w2,hw2⟩:∃ w2,w2 = wr.alloc (.cells #[.int .u32 (f.id.toNat:Int),.string f.name,.int .u8 (f.kind.toNat:Int),.bool f.need] 89):=⟨_,rfl⟩
     rw [← hw2]
     have hb2:Below w1.heap.size w1 w2:=by rw [hw2];exact hbr.alloc hbr.size _
     have hsz2:wr.heap.size < w2.heap.size:=by rw [hw2];simp
     obtain ⟨bf,hbf⟩:∃ bf,bf = wr.heap.size:=⟨_,rfl⟩
     have d0:w2.cell? ⟨bf,0,none⟩ = some (.int .u32 (f.id.toNat:Int)):=by rw [hw2,hbf];simp
     have d1:w2.cell? ⟨bf,1,none⟩ = some (.string f.name):=by rw [hw2,hbf];simp
     have d2:w2.cell? ⟨bf,2,none⟩ = some (.int .u8 (f.kind.toNat:Int)):=by rw [hw2,hbf];simp
     have d3:w2.cell? ⟨bf,3,none⟩ = some (.bool f.need):=by rw [hw2,hbf];simp
     rw [← hbf] at hsz2 ⊢
     clear hbf hw2 f0 f1 f2 f3
     refine (schNamed w2 f.name).mono ?_
     rintro e w3 ⟨rfl,hb3⟩
     have e0:=(hb3.cell (p:=⟨bf,0,none⟩) hsz2).trans d0
     have e1:=(hb3.cell (p:=⟨bf,1,none⟩) hsz2).trans d1
     have e2:=(hb3.cell (p:=⟨bf,2,none⟩) hsz2).trans d2
     have e3:=(hb3.cell (p:=⟨bf,3,none⟩) hsz2).trans d3
     have hsz3:bf < w3.heap.size:=Nat.lt_of_lt_of_le hsz2 hb3.size
     have hbW3:Below w1.heap.size w1 w3:=below_call hb2 hb2.size hb3
     have cx1:=(hbW3.cell (p:=⟨bx,1,none⟩) hs1).trans c1
     have hrr:=hr1.below hbW3
     have hkc:k ≤ c:=Nat.le_trans (Nat.le_of_lt hlt) hrr.le
     have hpre:Rd w3 w1.heap.size 4 (some ⟨b,off,none⟩) k c (fdsV (l.take k)):=by
      have:=hrr.pre (hi:=k) (Nat.le_of_lt hlt)
      rwa [fdsV_take] at this
     have htl:(l.take k).length ≤ 1000000:=by rw [List.length_take];omega
     have hcon:=containsF w3 _ k c _ (l.take k) hpre hbW3.size htl 82 #[.pointer (some ⟨bf,0,none⟩)] _ enter58 (predName w3 bf 0 f.name hsz3 e1)
     obtain ⟨hv,hhas⟩:∃ hv,hv = hasName (l.take k) f.name:=⟨_,rfl⟩
     have hcon2:Calls Tryz.prog 81 #[.slice (some ⟨b,off,none⟩) k c,.func (.func 82) #[] #[.pointer (some ⟨bf,0,none⟩)]] w3 fun e w' => e = .returned (.bool hv) ∧ Below w3.heap.size w3 w':=by rw [hhas];exact hcon
     have HHAS:=hide hhas
     have kc:=fun w' => cut_hi tyFields (some ⟨b,off,none⟩) l.length c .i64 (k:Int) k rfl hkc w'
     clear hhas hcon hpre htl d0 d1 d2 d3 hrr
     cases hnm:named f.name with
     | false =>
       have he:=hide (hf.out.symm.trans (errFrom_at hlt (errAt_80 HF.out h81.out (by rw [hnm];rfl)) (by decide)))
       clear hcon2 kc
       go_wp2_with fail
       go_ret
       exact ⟨by rw [he.out];rfl,below_call hb1 hb1.size hbW3⟩
     | true =>
       go_wp2_with fail
       clear kc
       refine hcon2.mono ?_
       rintro e w4 ⟨rfl,hb4⟩
       have g0:=(hb4.cell (p:=⟨bf,0,none⟩) hsz3).trans e0
       have g2:=(hb4.cell (p:=⟨bf,2,none⟩) hsz3).trans e2
       have g3:=(hb4.cell (p:=⟨bf,3,none⟩) hsz3).trans e3
       have hbW:Below w1.heap.size w1 w4:=below_call hbW3 hbW3.size hb4
       have hhas:=HHAS.out.symm
       clear hcon2 e0 e1 e2 e3 cx1 hb4 hb3 hb2 hsz2 hsz3 hbW3 hkc
       cases hv with
       | true =>
         have he:=hide (hf.out.symm.trans (errFrom_at hlt (errAt_80 HF.out h81.out (by rw [hnm,hhas];rfl)) (by decide)))
         go_wp2_with fail
         go_ret
         exact ⟨by rw [he.out];rfl,below_call hb1 hb1.size hbW⟩
       | false =>
         have h80:Hid ((!named f.name || hasName (l.take k) f.name) = false):=hide (by rw [hnm,hhas];rfl)
         clear hnm hhas
         obtain ⟨kn,hkn⟩:∃ kn,kn = f.kind.toNat:=⟨_,rfl⟩
         have hknb:kn < 256:=by rw [hkn];exact f.kind.toNat_lt
         rw [← hkn] at g2
         have HKN:=hide hkn
         clear hkn
         go_wp2_with fail
         refine (schRight w4 kn hknb).mono ?_
         rintro e w5 ⟨rfl,rfl⟩
         by_cases g1:kn < 1 ∨ 3 < kn
         ·rw [decide_eq_false (show ¬ (1 ≤ kn ∧ kn ≤ 3) by omega)]
          have he:=hide (hf.out.symm.trans (errFrom_at hlt (errAt_10 HF.out h81.out h80.out (by rw [← HKN.out];exact g1)) (by decide)))
          clear g1
          go_wp2_with fail
          go_ret
          exact ⟨by rw [he.out];rfl,below_call hb1 hb1.size hbW⟩
         ·rw [decide_eq_true (show 1 ≤ kn ∧ kn ≤ 3 by omega)]
          have G1:=hide (show ¬ (f.kind.toNat < 1 ∨ 3 < f.kind.toNat) by rw [← HKN.out];exact g1)
          clear g1
          generalize hnd:f.need = nd at *
          have HND:=hide hnd
          clear hnd
          have hidn:=f.id.toNat_lt
          have hnx:Hid (wasId l (k + 1) = f.id.toNat):=hide (by rw [wasId_next,HF.out])
          have h81x:=h81
          obtain ⟨fid,hfid⟩:∃ fid,fid = f.id.toNat:=⟨_,rfl⟩
          rw [← hfid] at g0 hnx hle hidn
          clear hfid
          by_cases hk0:k = 0
          ·have hk1:((k:Int) == 0) = true:=by rw [hk0];rfl
           cases nd with
           | false =>
             have he:=hide (hf.out.symm.trans (errFrom_at hlt (errAt_82 HF.out h81x.out h80.out G1.out (by rw [HND.out,← HKN.out];simp [hk0])) (by decide)))
             go_wp2_with fail
             go_ret
             exact ⟨by rw [he.out];rfl,below_call hb1 hb1.size hbW⟩
           | true =>
             by_cases g3x:kn = 2
             ·have he:=hide (hf.out.symm.trans (errFrom_at hlt (errAt_82 HF.out h81x.out h80.out G1.out (by rw [HND.out,← HKN.out];simp [hk0,g3x])) (by decide)))
              have s3:((kn:Int) == 2) = true:=by rw [g3x];rfl
              go_wp2_with fail
              go_ret
              exact ⟨by rw [he.out];rfl,below_call hb1 hb1.size hbW⟩
             ·have he:=hide ((errFrom_next hlt (errAt_0 HF.out h81x.out h80.out G1.out (by rw [HND.out,← HKN.out];simp [hk0,g3x]))).symm.trans hf.out)
              have s3:((kn:Int) == 2) = false:=by rw [beq_eq_false_iff_ne];omega
              go_wp2_with fail
              go_roundw
              case rel => exact ⟨k + 1,hlt,by rw [hnx.out],by go_num,he,hbW⟩
              case measure => first | exact meas_sub k _ hlt | (simp [intOf,hk0];omega)
          ·have hk2:0 < k:=by omega
           have hk1:((k:Int) == 0) = false:=by rw [beq_eq_false_iff_ne];omega
           cases nd with
           | true =>
             have he:=hide (hf.out.symm.trans (errFrom_at hlt (errAt_82 HF.out h81x.out h80.out G1.out (by rw [HND.out,← HKN.out];simp [hk0])) (by decide)))
             go_wp2_with fail
             go_ret
             exact ⟨by rw [he.out];rfl,below_call hb1 hb1.size hbW⟩
           | false =>
             have he:=hide ((errFrom_next hlt (errAt_0 HF.out h81x.out h80.out G1.out (by rw [HND.out,← HKN.out];simp [hk0]))).symm.trans hf.out)
             go_wp2_with fail
             go_roundw
             case rel => exact ⟨k + 1,hlt,by rw [hnx.out],by go_num,he,hbW⟩
             case measure => first | exact meas_sub k _ hlt | (simp [intOf,hk0];omega)
   ·obtain rfl:k = l.length:=by omega
    have he:=hf.out
    rw [Nat.sub_self] at he
    have HE:=hide he.symm
    clear he
    go_wp2_with fail
    go_ret
    exact ⟨by rw [HE.out];rfl,below_call hb1 hb1.size hbr⟩


theorem load_sch (w:World) (b:Nat) (x y:Value) (c0:w.cell? ⟨b,0,none⟩ = some x) (c1:w.cell? ⟨b,1,none⟩ = some y):(loadVar 33 ⟨b,0,none⟩).run Tryz.prog w = .ok (.agg #[x,y]) w:=by
 go_simp
theorem ret_sch {fn:Func} {p u:Tmp} (h:fn.results = #[.cell p 33,.tmp u]) (tmps:Array Value) (w:World) {b:Nat} {x y:Value} (hp:tmps.getD p undef = .pointer (some ⟨b,0,none⟩)) (c0:w.cell? ⟨b,0,none⟩ = some x) (c1:w.cell? ⟨b,1,none⟩ = some y) :
 (results fn tmps).run Tryz.prog w = .ok (.tuple #[.agg #[x,y],tmps.getD u undef]) w:=by
 rw [results_cell_tmp h,hp]
 have:=load_sch w b x y c0 c1
 simp [asAddr,Result.andThen,this]
structure Box (w w':World) (cs:Array Value):Prop where
 below:Below w.heap.size w w'
 size:w'.heap.size = w.heap.size + 1
 cell:∀ j v,cs[j]? = some v → w'.cell? ⟨w.heap.size,j,none⟩ = some v
 free:∀ j,w'.frozen? ⟨w.heap.size,j,none⟩ = false
theorem box_new (w:World) (cs:Array Value) (t:TypeId):Box w (w.alloc (.cells cs t)) cs where
 below:=(Below.refl _ _).alloc (Nat.le_refl _) _
 size:=by simp
 cell:=fun j v h => by
  rw [cell_of_row _ _ _ cs t (0,0) (heap_alloc_new w _)]
  exact h
 free:=fun j => by
  simp
theorem Box.lift {w w' w2:World} {cs:Array Value} (h:Box w w' cs) (hb:Below w'.heap.size w' w2):(∀ j v,cs[j]? = some v → w2.cell? ⟨w.heap.size,j,none⟩ = some v) ∧ (∀ j,w2.frozen? ⟨w.heap.size,j,none⟩ = false) ∧ w.heap.size < w2.heap.size ∧ Below w.heap.size w w2:=by
 have hz:=h.size
 refine ⟨fun j v hj => (hb.cell (p:=⟨w.heap.size,j,none⟩) (show w.heap.size < w'.heap.size by omega)).trans (h.cell j v hj),fun j => (hb.frozen (p:=⟨w.heap.size,j,none⟩) (show w.heap.size < w'.heap.size by omega)).trans (h.free j),?_,below_call h.below h.below.size hb⟩
 have:=hb.size
 omega
theorem set2 (W:World) (b:Nat) (u v x y:Value) (c0:W.cell? ⟨b,0,none⟩ = some u) (c1:W.cell? ⟨b,1,none⟩ = some v) :
 ((W.setCell ⟨b,0,none⟩ x).setCell ⟨b,1,none⟩ y).cell? ⟨b,0,none⟩ = some x ∧ ((W.setCell ⟨b,0,none⟩ x).setCell ⟨b,1,none⟩ y).cell? ⟨b,1,none⟩ = some y:=by
 constructor <;> go_simp
theorem below_set2 {B:Nat} {w W:World} (h:Below B w W) (b:Nat) (hb:B ≤ b) (x y:Value):Below B w ((W.setCell ⟨b,0,none⟩ x).setCell ⟨b,1,none⟩ y):=(h.setCell hb x).setCell hb y
theorem rd_set2 {W:World} {B sz n c:Nat} {A:Option Addr} {xs:List Value} (h:Rd W B sz A n c xs) (b:Nat) (hb:B ≤ b) (x y:Value):Rd ((W.setCell ⟨b,0,none⟩ x).setCell ⟨b,1,none⟩ y) B sz A n c xs :=
 h.keep fun _p hp => (below_set2 (Below.refl B W) b hb x y).cell hp
/-- a row of fields of one's own -/
def OwnF (B:Nat) (xs:List Value) (v:Value) (w:World):Prop:=∃ n,n * 4 = xs.length ∧ w.ownsRow B 89 4 v n xs
theorem mono_ownF (B:Nat) (xs:List Value):(Slot.has (OwnF B xs)).mono Ext:=fun _ _ _ he ⟨n,e,h⟩ => ⟨n,e,own_below h he⟩
theorem ownF_ret {w w':World} {B n:Nat} {xs:List Value} {e:Ending} (h:RetRow w 89 4 n xs e w') (hB:B ≤ w.heap.size):∃ v,e = .returned v ∧ Ext w w' ∧ (Slot.has (OwnF B xs)).holds v w':=by
 obtain ⟨v,rfl,ho,hb⟩:=h
 exact ⟨v,rfl,hb,n,by rw [ho.1],own_base ho hB⟩


/-- what stands in rows -/
inductive Vl where
 | none
 | whole (n:Int)
 | truth (b:Bool)
 | text (s:ByteArray)
instance:Inhabited Vl:=⟨.none⟩


structure Cl where
 kind:UInt8
 n:Int
 s:ByteArray
instance:Inhabited Cl:=⟨⟨0,0,⟨#[]⟩⟩⟩


theorem errFrom_zero (l:List Fd):∀ b i,errFrom l b i = 0 → ∀ j,i ≤ j → j < i + b → errAt l j = 0:=by
 intro b
 induction b with
 | zero => intro i _ j h1 h2;omega
 | succ b ih =>
   intro i h j h1 h2
   by_cases h0:errAt l i = 0
   ·rw [errFrom_no l b i h0] at h
    by_cases e:j = i
    ·rw [e];exact h0
    ·exact ih (i + 1) h j (by omega) (by omega)
   ·rw [errFrom_yes l b i h0] at h
    exact absurd h h0
theorem check_all {id:UInt32} {l:List Fd} (h:check id l = 0):∀ j,j < l.length → errAt l j = 0:=by
 have h2:=check_len h
 unfold check at h
 rw [if_neg (by omega)] at h
 exact fun j hj => errFrom_zero l _ _ h j (Nat.zero_le _) (by omega)


def two:List Fd:=[⟨1,⟨#[105,100]⟩,1,true⟩,⟨2,⟨#[110,97,109,101]⟩,3,false⟩]
def age:ByteArray:=⟨#[97,103,101]⟩
def three:List Fd:=two ++ [newFd two age 1]
theorem ret_sch1 {fn:Func} {p:Tmp} (h:fn.results = #[.cell p 33]) (tmps:Array Value) (w:World) {b:Nat} {x y:Value} (hp:tmps.getD p undef = .pointer (some ⟨b,0,none⟩)) (c0:w.cell? ⟨b,0,none⟩ = some x) (c1:w.cell? ⟨b,1,none⟩ = some y) :
 (results fn tmps).run Tryz.prog w = .ok (.agg #[x,y]) w:=by
 have:=load_sch w b x y c0 c1
 have hp':tmps[p]?.getD undef = .pointer (some ⟨b,0,none⟩):=by simpa using hp
 simp only [results,h]
 simp [hp',asAddr,this]


/-! ### texts -/
def strsV (l:List ByteArray):List Value:=l.map .string
theorem Rd.lenT {w:World} {B n c:Nat} {A:Option Addr} {l:List ByteArray} (h:Rd w B 1 A n c (strsV l)):n = l.length:=by
 have:=h.len
 simp [strsV] at this
 omega
theorem Rd.st {w:World} {B n c:Nat} {A:Option Addr} {l:List ByteArray} (h:Rd w B 1 A n c (strsV l)) {k:Nat} (hk:k < l.length) :
 ∃ b off,A = some ⟨b,off,none⟩ ∧ b < B ∧ w.cell? ⟨b,off + k,none⟩ = some (.string (l.getD k default)):=by
 obtain ⟨b,off,e,hb,hc⟩:=h.cellAt (k:=k) (by simp [strsV];exact hk)
 refine ⟨b,off,e,hb,hc.trans ?_⟩
 simp [strsV,List.getD,hk]
/-! ### a row that does not lie in a box -/
/-! ### what holds at each round -/

/-! ### rows that are alike -/

section
namespace Var

/-- a number's bytes -/
def put (n:Nat):List UInt8:=if n < 128 then [UInt8.ofNat n] else UInt8.ofNat (n % 128 + 128) :: put (n / 128)
termination_by n
decreasing_by omega

theorem put_lt {n:Nat} (h:n < 128):put n = [UInt8.ofNat n]:=by rw [put,if_pos h]
theorem put_ge {n:Nat} (h:128 ≤ n):put n = UInt8.ofNat (n % 128 + 128) :: put (n / 128):=by rw [put,if_neg (by omega)]

theorem put_pos (n:Nat):0 < (put n).length:=by
 rw [put];split <;> simp
theorem put_le (k:Nat):∀ n,n < 128 ^ (k + 1) → (put n).length ≤ k + 1:=by
 induction k with
 | zero => intro n h;rw [put_lt (by simpa using h)];simp
 | succ k ih =>
   intro n h
   by_cases hn:n < 128
   ·rw [put_lt hn];simp
   ·rw [put_ge (by omega)]
    have:=ih (n / 128) (by rw [Nat.div_lt_iff_lt_mul (by omega)];rw [Nat.pow_succ] at h;exact h)
    simp;omega
theorem put_le10 {n:Nat} (h:n < 18446744073709551616):(put n).length ≤ 10:=put_le 9 n (by omega)

theorem toNat_ofNat_lt {n:Nat} (h:n < 256):(UInt8.ofNat n).toNat = n:=by
 simp [Nat.mod_eq_of_lt h]

/-- the number that bytes say, the lowest seven bits first -/
def val:List UInt8 → Nat
 | [] => 0
 | c :: r => c.toNat % 128 + 128 * val r

/-- what varint.Get does: at byte i, acc gathered: the number, how many bytes, the error -/
def getL:Nat → Nat → List UInt8 → Nat × Nat × Nat
 | _,_,[] => (0,0,30)
 | i,acc,c :: r =>
   if i = 9 ∧ 1 < c.toNat then (0,0,31)
   else if c.toNat < 128 then (if c.toNat = 0 ∧ 0 < i then (0,0,31) else (acc + (c.toNat % 128) * 2 ^ (7 * i),i + 1,0))
   else getL (i + 1) (acc + (c.toNat % 128) * 2 ^ (7 * i)) r
def get (l:List UInt8):Nat × Nat × Nat:=getL 0 0 l

/-- how many bytes stand ahead of the first that lacks its topmost bit -/
def lead:List UInt8 → Nat
 | [] => 0
 | c :: r => if c.toNat < 128 then 0 else lead r + 1

theorem lead_le (l:List UInt8):lead l ≤ l.length:=by
 induction l with
 | nil => simp [lead]
 | cons c r ih => simp only [lead];split <;> simp;omega

theorem get_nine (r:List UInt8) (acc:Nat):getL 9 acc r = match r with
 | [] => (0,0,30)
 | c :: _ => if 1 < c.toNat then (0,0,31) else if c.toNat = 0 then (0,0,31) else (acc + c.toNat * 2 ^ 63,10,0):=by
 cases r with
 | nil => rfl
 | cons c r =>
   simp only [getL]
   by_cases h:1 < c.toNat
   ·simp [h]
   ·have h2:c.toNat < 128:=by omega
    simp only [h,and_false,if_false,h2,if_true]
    by_cases h0:c.toNat = 0
    ·simp [h0]
    ·have:c.toNat = 1:=by omega
     simp [this]

/-- Get, by the lead -/
theorem getL_eq (k:Nat):∀ (i acc:Nat) (l:List UInt8),i + k = 9 →
 getL i acc l =
  if k < lead l then (0,0,31)
  else if lead l = l.length then (0,0,30)
  else if (lead l = k ∧ 1 < (l.getD (lead l) 0).toNat) ∨ ((l.getD (lead l) 0).toNat = 0 ∧ 0 < i + lead l) then (0,0,31)
  else (acc + val (l.take (lead l + 1)) * 2 ^ (7 * i),i + lead l + 1,0):=by
 induction k with
 | zero =>
   intro i acc l hi
   obtain rfl:i = 9:=by omega
   rw [get_nine]
   cases l with
   | nil => simp [lead]
   | cons c r =>
     simp only [lead]
     by_cases h:c.toNat < 128
     ·simp only [if_pos h]
      by_cases h1:1 < c.toNat
      ·simp [h1]
      ·by_cases h0:c.toNat = 0
       ·simp [h0]
       ·have:c.toNat = 1:=by omega
        simp [this,val]
     ·have:1 < c.toNat:=by omega
      simp [this,h]
 | succ k ih =>
   intro i acc l hi
   cases l with
   | nil => simp [getL,lead]
   | cons c r =>
     simp only [getL,lead]
     have h9:¬ (i = 9 ∧ 1 < c.toNat):=by omega
     rw [if_neg h9]
     by_cases h:c.toNat < 128
     ·simp only [if_pos h]
      by_cases h0:c.toNat = 0 ∧ 0 < i
      ·simp [h0]
      ·have hm:c.toNat % 128 = c.toNat:=by omega
       have h0':¬ (c.toNat = 0 ∧ 0 < i):=h0
       simp [h0',val,hm]
     ·simp only [if_neg h]
      rw [ih (i + 1) _ r (by omega)]
      have e1:(k < lead r) ↔ (k + 1 < lead r + 1):=by omega
      have e2:(lead r = r.length) ↔ (lead r + 1 = (c :: r).length):=by simp
      have e3:(c :: r).getD (lead r + 1) 0 = r.getD (lead r) 0:=by simp
      have e4:(lead r = k) ↔ (lead r + 1 = k + 1):=by omega
      have e5:(0 < i + 1 + lead r) ↔ (0 < i + (lead r + 1)):=by omega
      rw [e3]
      simp only [← e1,← e2,← e4,← e5]
      split
      ·rfl
      split
      ·rfl
      split
      ·rfl
      ·have ev:val ((c :: r).take (lead r + 1 + 1)) = c.toNat % 128 + 128 * val (r.take (lead r + 1)):=by simp [val]
       rw [ev]
       have ep:2 ^ (7 * (i + 1)) = 128 * 2 ^ (7 * i):=by rw [Nat.mul_add,Nat.pow_add];omega
       rw [ep]
       simp only [Prod.mk.injEq,and_true]
       refine ⟨?_,by omega⟩
       rw [Nat.add_mul,Nat.add_assoc]
       congr 2
       rw [← Nat.mul_assoc,Nat.mul_comm (val _) 128]

theorem get_eq (l:List UInt8):get l =
 if 9 < lead l then (0,0,31)
 else if lead l = l.length then (0,0,30)
 else if (lead l = 9 ∧ 1 < (l.getD (lead l) 0).toNat) ∨ ((l.getD (lead l) 0).toNat = 0 ∧ 0 < lead l) then (0,0,31)
 else (val (l.take (lead l + 1)),lead l + 1,0):=by
 unfold get
 rw [getL_eq 9 0 0 l rfl]
 simp

/-- a text that is a number's bytes -/
theorem put_val:∀ (l:List UInt8),lead l < l.length → ¬ ((l.getD (lead l) 0).toNat = 0 ∧ 0 < lead l) → put (val (l.take (lead l + 1))) = l.take (lead l + 1)
 | [],h,_ => by simp [lead] at h
 | c :: r,h,hz => by
   simp only [lead] at h hz ⊢
   by_cases hc:c.toNat < 128
   ·simp only [if_pos hc]
    simp only [Nat.zero_add,List.take_succ_cons,List.take_zero,val]
    have:c.toNat % 128 + 128 * 0 = c.toNat:=by omega
    rw [this,put_lt hc]
    simp
   ·simp only [if_neg hc] at h hz ⊢
    have hr:lead r < r.length:=by simpa using h
    have hg:(c :: r).getD (lead r + 1) 0 = r.getD (lead r) 0:=by simp
    rw [hg] at hz
    have hnz:(r.getD (lead r) 0).toNat ≠ 0:=fun e => hz ⟨e,by omega⟩
    have ih:=put_val r hr (fun e => hnz e.1)
    have ev:val ((c :: r).take (lead r + 1 + 1)) = c.toNat % 128 + 128 * val (r.take (lead r + 1)):=by simp [val]
    rw [ev]
    have hpos:0 < val (r.take (lead r + 1)):=val_pos r hr hnz
    rw [put_ge (by omega)]
    have hlt:=c.toNat_lt
    have e1:(c.toNat % 128 + 128 * val (r.take (lead r + 1))) % 128 + 128 = c.toNat:=by omega
    have e2:(c.toNat % 128 + 128 * val (r.take (lead r + 1))) / 128 = val (r.take (lead r + 1)):=by omega
    rw [e1,e2,ih]
    simp
where
 val_pos:∀ (l:List UInt8),lead l < l.length → (l.getD (lead l) 0).toNat ≠ 0 → 0 < val (l.take (lead l + 1))
 | [],h,_ => by simp [lead] at h
 | c :: r,h,hz => by
   simp only [lead] at h hz ⊢
   by_cases hc:c.toNat < 128
   ·simp only [if_pos hc] at hz ⊢
    simp at hz
    simp only [Nat.zero_add,List.take_succ_cons,List.take_zero,val]
    omega
   ·simp only [if_neg hc] at h hz ⊢
    have hg:(c :: r).getD (lead r + 1) 0 = r.getD (lead r) 0:=by simp
    rw [hg] at hz
    have:=val_pos r (by simpa using h) hz
    have ev:val ((c :: r).take (lead r + 1 + 1)) = c.toNat % 128 + 128 * val (r.take (lead r + 1)):=by simp [val]
    rw [ev];omega

/-- what Get takes are just a number's bytes -/
theorem get_ok {l:List UInt8} {n k:Nat} (h:get l = (n,k,0)):put n = l.take k ∧ k ≤ l.length ∧ 0 < k:=by
 rw [get_eq] at h
 have hle:=lead_le l
 split at h
 ·simp at h
 split at h
 ·simp at h
 split at h
 ·simp at h
 ·rename_i h1 h2 h3
  simp only [Prod.mk.injEq,and_true] at h
  obtain ⟨rfl,rfl⟩:=h
  exact ⟨put_val l (by omega) (fun e => h3 (.inr e)),by omega,by omega⟩
theorem get_used (l:List UInt8):(get l).2.1 ≤ 10:=by
 rw [get_eq]
 split
 ·simp
 split
 ·simp
 split
 ·simp
 ·simp;omega
end Var
end


theorem byte_or (m:Nat):bits BinOp.or .u8 ((m:Int) % 256) 128 = ((UInt8.ofNat (m % 128 + 128)).toNat:Int):=by
 rw [Var.toNat_ofNat_lt (by omega)]
 have e:(m:Int) % 256 = ((m % 256:Nat):Int):=by omega
 rw [e]
 have h:=u8_or_nat (m % 256) 128 (by omega) (by omega)
 have h2:m % 256 ||| 128 = m % 128 + 128:=by
  rcases (show m % 256 / 128 = 0 ∨ m % 256 / 128 = 1 by omega) with h4 | h4
  ·have:m % 256 = m % 128:=by omega
   rw [this,Nat.or_comm,nat_join 7 128 (m % 128) (by decide) (by omega)];omega
  ·have h5:m % 256 = 128 + m % 128:=by omega
   rw [h5,← nat_join 7 128 (m % 128) (by decide) (by omega),Nat.or_comm,← Nat.or_assoc,Nat.or_self,nat_join 7 128 (m % 128) (by decide) (by omega)];omega
 rw [← h2]
 exact h
theorem byte_more (m:Nat):Value.int .u8 (bits BinOp.or .u8 ((m:Int) % 256) 128) = byteV (UInt8.ofNat (m % 128 + 128)):=by
 unfold byteV;rw [byte_or]
theorem byte_last {m:Nat} (h:m < 128):Value.int .u8 (m:Int) = byteV (UInt8.ofNat m):=by
 unfold byteV;rw [Var.toNat_ofNat_lt (by omega)]

theorem varPut (n:Int) (w:World) (h0:0 ≤ n) (h1:n ≤ 18446744073709551615) :
 Calls Tryz.prog 153 #[.int .u64 n] w (RetBytes w (Var.put n.toNat)):=by
 obtain ⟨N,rfl⟩:=Int.eq_ofNat_of_zero_le h0
 rw [Int.toNat_natCast]
 have H1:=hide h1
 clear h1 h0
 go_enter Tryz.func153,Tryz.ntmps153
 go_wp2
 go_loopw [0,3] (fun nv bv wr => ∃ (m:Nat) (l:List UInt8),m ≤ N ∧ nv = .int .u64 m ∧ Hid (Var.put N = l ++ Var.put m) ∧ wr.ownsRow w.heap.size 5 1 bv l.length (bytesV l) ∧ Below w.heap.size w wr) (fun nv _ _ => (intOf nv).toNat)
 case atStart => exact ⟨N,[],Nat.le_refl _,rfl,hide (by simp),World.ownsRow_nil _ _ _ _,Below.refl _ _⟩
 case round =>
  obtain ⟨m,l,hm,rfl,hp,hown,hb⟩:=hrel
  have hlen:l.length + (Var.put m).length ≤ 10:=by have h1:=Var.put_le10 (n:=N) (by have:=H1.out;omega);rw [hp.out] at h1;simpa using h1
  have hpos:=Var.put_pos m
  by_cases hlt:128 ≤ m
  ·have ht:decide ((128:Int) ≤ (m:Int)) = true:=by simp;omega
   go_wp2_with (at_builtin;refine wpList_app _ tyBytes rfl _ _ rfl w.heap.size _ _ _ rfl (hown.alloc _) (wr.heap.size + 1) _ 1 1 _ rfl (Rd.lit wr 5 _ rfl (by decide)) (one_int _ _) ?c2 ?c3 ?_)
   case c2 => omega
   case c3 => have:=hb.size;simp;omega
   intro v1 w1 hown1 hg1 hat1
   have hb1:Below w.heap.size w w1:=below_app (hb.alloc hb.size _) (Nat.le_refl _) (hown.alloc _) hg1 (by have:=hb.size;simp;omega)
   clear hg1 hat1 hown hb
   go_wp2
   go_roundw
   case rel =>
    refine ⟨m / 128,l ++ [UInt8.ofNat (m % 128 + 128)],by omega,by go_num,hide (by rw [hp.out,Var.put_ge hlt];simp),?_,hb1⟩
    rw [byte_more] at hown1
    simpa [bytesV] using hown1
   case measure => simp [intOf];omega
  ·have ht:decide ((128:Int) ≤ (m:Int)) = false:=by simp;omega
   go_wp2_with (at_builtin;refine wpList_app _ tyBytes rfl _ _ rfl w.heap.size _ _ _ rfl (hown.alloc _) (wr.heap.size + 1) _ 1 1 _ rfl (Rd.lit wr 5 _ rfl (by decide)) (one_int _ _) ?c2 ?c3 ?_)
   case c2 => omega
   case c3 => have:=hb.size;simp;omega
   intro v1 w1 hown1 hg1 hat1
   have hb1:Below w.heap.size w w1:=below_app (hb.alloc hb.size _) (Nat.le_refl _) (hown.alloc _) hg1 (by have:=hb.size;simp;omega)
   clear hg1 hat1 hown hb
   go_wp2
   go_ret
   refine ⟨v1,rfl,?_,hb1⟩
   rw [byte_last (by omega)] at hown1
   rw [hp.out,Var.put_lt (by omega)]
   simpa [bytesV] using hown1

end
end Go.Proofs.YtpfofefecamkfaaGreatDoor
