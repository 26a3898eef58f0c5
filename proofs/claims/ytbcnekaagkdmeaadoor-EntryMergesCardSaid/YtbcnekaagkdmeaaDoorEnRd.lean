/- meta's reader: plain, and the walks of its num and text. No statement of the seat is proved here; no condition. -/
import Derived.Test.YtbcnekaagkdmeaaDoorE1
namespace Go.Proofs.YtbcnekaagkdmeaaDoor
open Go.RowKit

/-! ### plain -/
abbrev MNum := Nat × List UInt8 × Bool
def mnum (l : List UInt8) (bad : Bool) : MNum := if (Var.get l).2.2 ≠ 0 ∨ bad = true then (0, l, true) else ((Var.get l).1, l.drop (Var.get l).2.1, false)
theorem mnum_bad {l : List UInt8} {bad : Bool} (h : (Var.get l).2.2 ≠ 0 ∨ bad = true) : mnum l bad = (0, l, true) := by unfold mnum; rw [if_pos h]
theorem mnum_ok {l : List UInt8} {bad : Bool} (h : ¬ ((Var.get l).2.2 ≠ 0 ∨ bad = true)) : mnum l bad = ((Var.get l).1, l.drop (Var.get l).2.1, false) := by unfold mnum; rw [if_neg h]
abbrev MTxt := ByteArray × List UInt8 × Bool
def mtext (l : List UInt8) (bad : Bool) : MTxt :=
  if (mnum l bad).2.2 = true ∨ (mnum l bad).2.1.length < (mnum l bad).1 then (ByteArray.empty, (mnum l bad).2.1, true)
  else (⟨((mnum l bad).2.1.take (mnum l bad).1).toArray⟩, (mnum l bad).2.1.drop (mnum l bad).1, false)
def mtexts : Nat → List UInt8 → Bool → List ByteArray → List ByteArray × List UInt8 × Bool
  | 0, l, bad, acc => (acc, l, bad)
  | n + 1, l, bad, acc => if bad = true then (acc, l, true) else mtexts n (mtext l false).2.1 ((mtext l false).2.2 || decide (8 < acc.length + 1)) (acc ++ [(mtext l false).1])
/-! ### bytes in certain blocks -/
structure RdP (w : World) (P : Nat → Prop) (A : Option Addr) (n c : Nat) (l : List UInt8) : Prop where
  rd : Rd w w.heap.size 1 A n c (bytesV l)
  at_ : 0 < n → ∃ b off, A = some ⟨b, off, none⟩ ∧ P b
section
variable {w w' : World} {P Q : Nat → Prop} {A : Option Addr} {n c : Nat} {l : List UInt8}
theorem RdP.keep (h : RdP w P A n c l) (hsz : w.heap.size ≤ w'.heap.size) (hk : ∀ p : Addr, P p.block → p.block < w.heap.size → w'.cell? p = w.cell? p) : RdP w' P A n c l :=
  ⟨⟨h.rd.len, h.rd.le, h.rd.cap, fun hn => by
    obtain ⟨b, off, e, hb, hc⟩ := h.rd.at_ hn
    obtain ⟨b2, off2, e2, hp⟩ := h.at_ hn
    rw [e] at e2
    injection e2 with e2
    injection e2 with e2 _
    subst e2
    exact ⟨b, off, e, Nat.lt_of_lt_of_le hb hsz, fun j u hu => (hk ⟨b, off + j, none⟩ hp hb).trans (hc j u hu)⟩⟩, h.at_⟩
theorem RdP.imp (h : RdP w P A n c l) (hi : ∀ k, P k → k < w.heap.size → Q k) : RdP w Q A n c l :=
  ⟨h.rd, fun hn => by
    obtain ⟨b, off, e, hb, hc⟩ := h.rd.at_ hn
    obtain ⟨b2, off2, e2, hp⟩ := h.at_ hn
    rw [e] at e2
    injection e2 with e2
    injection e2 with e2 _
    subst e2
    exact ⟨b, off, e, hi b hp hb⟩⟩
theorem RdP.of {B : Nat} (h : Rd w B 1 A n c (bytesV l)) (hB : B ≤ w.heap.size) (hi : ∀ k, k < B → P k) : RdP w P A n c l :=
  ⟨h.more hB, fun hn => by
    obtain ⟨b, off, e, hb, hc⟩ := h.at_ hn
    exact ⟨b, off, e, hi b hb⟩⟩
theorem RdP.own {base : Nat} (h : w.ownsRow base 5 1 (.slice A n c) n (bytesV l)) (hi : ∀ k, base ≤ k → P k) : RdP w P A n c l := by
  obtain ⟨A', c', q, hr⟩ := Rd.of_own h
  injection q with q1 q2 q3
  subst q1 q3
  refine ⟨hr, fun hn => ?_⟩
  obtain ⟨g, cap, q, hb, _⟩ := h.form hn
  injection q with q1 _ _
  exact ⟨g, 0, q1, hi g hb⟩
theorem RdP.lo (h : RdP w P A l.length c l) {lo : Nat} (hlo : lo ≤ l.length) : ∃ A2 l2, l2 = l.drop lo ∧
    (∀ k W, (Instr.sliceAt 25 (.slice A l.length c) (some (.int k (lo : Int))) none none).run Tryd.prog W = .ok (.slice A2 l2.length (c - lo)) W) ∧
    (∀ k W, (Instr.slice 25 (.slice A l.length c) (some (.int k (lo : Int))) none none).run Tryd.prog W = .ok (.slice A2 l2.length (c - lo)) W) ∧ RdP w P A2 l2.length (c - lo) l2 := by
  have hr := h.rd
  refine ⟨(if c = lo then A else A.map (·.add (lo * 1))), l.drop lo, rfl, fun k W => ?_, fun k W => ?_, ?_, ?_⟩
  · rw [List.length_drop]; exact cut_lo tyBytes A l.length c k (lo : Int) lo rfl hlo hr.le W
  · rw [List.length_drop]; exact run_cut_lo tyBytes A l.length c k (lo : Int) lo rfl hlo hr.le W
  · have := hr.cut hlo (Nat.le_refl _)
    rw [List.length_drop]
    rw [List.take_of_length_le (by simp [bytesV])] at this
    simpa [bytesV, List.map_drop] using this
  · intro hn
    rw [List.length_drop] at hn
    have hle := hr.le
    obtain ⟨b, off, e, hp⟩ := h.at_ (by omega)
    refine ⟨b, off + lo * 1, ?_, hp⟩
    rw [if_neg (by omega), e]
    simp [Addr.add_lit]
end
/-! ### the reader's box -/
structure RdrB (w : World) (b : Nat) (P : Nat → Prop) (A : Option Addr) (c : Nat) (l : List UInt8) (e : Bool) : Prop where
  c0 : w.cell? ⟨b, 0, none⟩ = some (.slice A l.length c)
  c1 : w.cell? ⟨b, 1, none⟩ = some (.bool e)
  f0 : w.frozen? ⟨b, 0, none⟩ = false
  f1 : w.frozen? ⟨b, 1, none⟩ = false
  z : b < w.heap.size
  rd : RdP w P A l.length c l
  nP : ¬ P b
section
variable {w w' : World} {b c B : Nat} {P Q : Nat → Prop} {A : Option Addr} {l : List UInt8} {e : Bool}
theorem RdrB.keepB (h : RdrB w b P A c l e) (hb : Below B w w') (hz : b < B) (hP : ∀ k, P k → k < w.heap.size → k < B) : RdrB w' b P A c l e where
  c0 := (hb.cell (p := ⟨b, 0, none⟩) hz).trans h.c0
  c1 := (hb.cell (p := ⟨b, 1, none⟩) hz).trans h.c1
  f0 := (hb.frozen (p := ⟨b, 0, none⟩) hz).trans h.f0
  f1 := (hb.frozen (p := ⟨b, 1, none⟩) hz).trans h.f1
  z := Nat.lt_of_lt_of_le h.z hb.size
  rd := h.rd.keep hb.size fun p hp hl => hb.cell (hP _ hp hl)
  nP := h.nP
theorem RdrB.keep (h : RdrB w b P A c l e) (hb : Below w.heap.size w w') : RdrB w' b P A c l e := h.keepB hb h.z fun _ _ hl => hl
theorem RdrB.drew (h : RdrB w b P A c l e) : RdrB w.drew b P A c l e := h.keep ((Below.refl _ w).drew)
theorem RdrB.imp (h : RdrB w b P A c l e) (hi : ∀ k, P k → k < w.heap.size → Q k) (hn : ¬ Q b) : RdrB w b Q A c l e := ⟨h.c0, h.c1, h.f0, h.f1, h.z, h.rd.imp hi, hn⟩
theorem cell_else {p q : Addr} (hne : q.block ≠ p.block) (x : Value) : (w.setCell p x).cell? q = w.cell? q ∧ (w.setCell p x).frozen? q = w.frozen? q := by
  have hb : (w.setCell p x).heap[q.block]? = w.heap[q.block]? := Below.heap_setCell _ _ _ _ hne
  exact ⟨World.cell?_of_block (w := w) hb, World.frozen?_of_block (w := w) hb⟩
theorem RdrB.elsewhere (h : RdrB w b P A c l e) {p : Addr} (hp : b ≠ p.block) (hP : ¬ P p.block) (x : Value) : RdrB (w.setCell p x) b P A c l e :=
  ⟨(cell_else (q := ⟨b, 0, none⟩) hp x).1.trans h.c0, (cell_else (q := ⟨b, 1, none⟩) hp x).1.trans h.c1, (cell_else (q := ⟨b, 0, none⟩) hp x).2.trans h.f0, (cell_else (q := ⟨b, 1, none⟩) hp x).2.trans h.f1,
    by simpa using h.z, h.rd.keep (by simp) fun q hq _ => (cell_else (p := p) (q := q) (fun r => hP (by rw [← r]; exact hq)) x).1, h.nP⟩
theorem RdrB.set0 (h : RdrB w b P A c l e) {A2 : Option Addr} {c2 : Nat} {l2 : List UInt8} (hr : RdP w P A2 l2.length c2 l2) : RdrB (w.setCell ⟨b, 0, none⟩ (.slice A2 l2.length c2)) b P A2 c2 l2 e := by
  have c0 := h.c0
  have c1 := h.c1
  have f0 := h.f0
  have f1 := h.f1
  exact ⟨by go_simp, by go_simp, by go_simp, by go_simp, by simpa using h.z, hr.keep (by simp) fun q hq _ => (cell_else (p := ⟨b, 0, none⟩) (q := q) (fun r => h.nP (by have r2 : q.block = b := r; rw [← r2]; exact hq)) _).1, h.nP⟩
theorem RdrB.set1 (h : RdrB w b P A c l e) (e2 : Bool) : RdrB (w.setCell ⟨b, 1, none⟩ (.bool e2)) b P A c l e2 := by
  have c0 := h.c0
  have c1 := h.c1
  have f0 := h.f0
  have f1 := h.f1
  exact ⟨by go_simp, by go_simp, by go_simp, by go_simp, by simpa using h.z, h.rd.keep (by simp) fun q hq _ => (cell_else (p := ⟨b, 1, none⟩) (q := q) (fun r => h.nP (by have r2 : q.block = b := r; rw [← r2]; exact hq)) _).1, h.nP⟩
end
theorem rdrB_new (w : World) {P : Nat → Prop} {c : Nat} {A : Option Addr} {l : List UInt8} (hr : Rd w w.heap.size 1 A l.length c (bytesV l)) (t : TypeId) (hP : ∀ k, k < w.heap.size → P k) (hn : ¬ P w.heap.size) : RdrB (w.alloc (.cells #[.slice A l.length c, .bool false] t)) w.heap.size P A c l false := by
  have x := box_new w #[.slice A l.length c, .bool false] t
  exact ⟨x.cell 0 _ rfl, x.cell 1 _ rfl, x.free 0, x.free 1, by rw [x.size]; omega, .of (hr.below x.below) (by simp) hP, hn⟩
def MNumEnd (w : World) (b : Nat) (P : Nat → Prop) (r : MNum) (e : Ending) (w' : World) : Prop :=
  e = .returned (.int .u64 (r.1 : Int)) ∧ (∃ A c, RdrB w' b P A c r.2.1 r.2.2) ∧ Oth b w w'
set_option maxRecDepth 100000 in
theorem entNum (w : World) (b : Nat) (P : Nat → Prop) (A : Option Addr) (c : Nat) (l : List UInt8) (bad : Bool) (h : RdrB w b P A c l bad) :
    Calls Tryd.prog 47 #[.pointer (some ⟨b, 0, none⟩)] w (MNumEnd w b P (mnum l bad)) := by
  have c0 := h.c0
  have c1 := h.c1
  have f0 := h.f0
  have f1 := h.f1
  go_enter Tryd.func47, Tryd.ntmps47
  go_wp2_with fail
  refine (varGet w w.heap.size _ c A l h.rd.rd).mono ?_
  rintro e w1 ⟨rfl, rfl⟩
  by_cases hg : (Var.get l).2.2 = 0
  · cases bad with
    | true =>
      have HN := hide (mnum_bad (l := l) (bad := true) (.inr rfl))
      rw [hg]
      generalize (Var.get l).2.1 = g2 at *
      generalize (Var.get l).1 = g1 at *
      clear hg
      go_wp2_with fail
      go_ret
      exact ⟨by rw [HN.out]; rfl, ⟨A, c, by rw [HN.out]; exact h.set1 true⟩, (Oth.refl b w).set 1 _⟩
    | false =>
      have HN := hide (mnum_ok (l := l) (bad := false) (by simp [hg]))
      have hk : (Var.get l).2.1 ≤ l.length := (Var.get_ok (l := l) (n := (Var.get l).1) (k := (Var.get l).2.1) (by rw [← hg])).2.1
      obtain ⟨A2, l2, hl2, s1, s2, hr2⟩ := h.rd.lo hk
      rw [← hl2] at HN
      obtain ⟨g1, hg1⟩ : ∃ g, g = (Var.get l).1 := ⟨_, rfl⟩
      rw [← hg1] at HN ⊢
      rw [hg]
      generalize (Var.get l).2.1 = g2 at *
      have HR := hide hr2
      clear hg hg1 hl2 hk hr2
      go_wp2_with fail
      go_ret
      exact ⟨by rw [HN.out]; rfl, ⟨A2, c - g2, by rw [HN.out]; exact h.set0 HR.out⟩, (Oth.refl b w).set 0 _⟩
  · have HN := hide (mnum_bad (l := l) (bad := bad) (.inl hg))
    obtain ⟨g3, hg3⟩ : ∃ g, g = (Var.get l).2.2 := ⟨_, rfl⟩
    rw [← hg3] at hg ⊢
    generalize (Var.get l).2.1 = g2 at *
    generalize (Var.get l).1 = g1 at *
    have t2 : ((g3 : Int) != 0) = true := by rw [bne_iff_ne]; omega
    clear hg hg3
    go_wp2_with fail
    go_ret
    exact ⟨by rw [HN.out]; rfl, ⟨A, c, by rw [HN.out]; exact h.set1 true⟩, (Oth.refl b w).set 1 _⟩
def MTextEnd (w : World) (b : Nat) (P : Nat → Prop) (r : MTxt) (e : Ending) (w' : World) : Prop :=
  e = .returned (.string r.1) ∧ (∃ A c, RdrB w' b P A c r.2.1 r.2.2) ∧ Oth b w w'
set_option maxRecDepth 100000 in
theorem entText (w : World) (b : Nat) (P : Nat → Prop) (A : Option Addr) (c : Nat) (l : List UInt8) (bad : Bool) (h : RdrB w b P A c l bad) :
    Calls Tryd.prog 48 #[.pointer (some ⟨b, 0, none⟩)] w (MTextEnd w b P (mtext l bad)) := by
  go_enter Tryd.func48, Tryd.ntmps48
  go_wp2_with fail
  refine (entNum w b P A c l bad h).mono ?_
  rintro e w1 ⟨rfl, ⟨A1, c1, h1⟩, ho⟩
  have HT : Hid (mtext l bad = if (mnum l bad).2.2 = true ∨ (mnum l bad).2.1.length < (mnum l bad).1 then (ByteArray.empty, (mnum l bad).2.1, true) else (⟨((mnum l bad).2.1.take (mnum l bad).1).toArray⟩, (mnum l bad).2.1.drop (mnum l bad).1, false)) := hide rfl
  obtain ⟨n, l1, b1, hm⟩ : ∃ n l1 b1, mnum l bad = (n, l1, b1) := ⟨_, _, _, rfl⟩
  rw [hm] at h1 HT ⊢
  dsimp only at h1 HT ⊢
  have HM := hide hm
  clear hm
  have d0 := h1.c0
  have d1 := h1.c1
  have f0 := h1.f0
  have f1 := h1.f1
  have hl1 : l1.length ≤ 9223372036854775807 := by have h2 := h1.rd.rd.le; have h3 := h1.rd.rd.cap; unfold maxLen at h3; omega
  have e33 : IntKind.u64.wrap (l1.length : Int) = (l1.length : Int) := by rw [IntKind.wrap_u64]; omega
  have e34 : (l1.length : Int) % 18446744073709551616 = (l1.length : Int) := by omega
  cases b1 with
  | true =>
    have HR := hide (HT.out.trans (if_pos (.inl rfl)))
    clear hl1 e33 e34
    go_wp2_with fail
    go_ret
    exact ⟨by rw [HR.out]; rfl, ⟨A1, c1, by rw [HR.out]; exact h1.set1 true⟩, ho.set 1 _⟩
  | false =>
    by_cases hn : l1.length < n
    · have HR := hide (HT.out.trans (if_pos (.inr hn)))
      clear hl1
      go_wp2_with fail
      go_ret
      exact ⟨by rw [HR.out]; rfl, ⟨A1, c1, by rw [HR.out]; exact h1.set1 true⟩, ho.set 1 _⟩
    · have HR := hide (HT.out.trans (if_neg (by simp; omega)))
      obtain ⟨A2, l2, hl2, s1, s2, hr2⟩ := h1.rd.lo (lo := n) (by omega)
      have hcap := h1.rd.rd.le
      have u1 := fun k W => run_cut_hi (P := Tryd.prog) tyBytes A1 l1.length c1 k (n : Int) n rfl (by omega) W
      have u2 := fun k W => cut_hi (P := Tryd.prog) tyBytes A1 l1.length c1 k (n : Int) n rfl (by omega) W
      have hpre : Rd w1 w1.heap.size 1 A1 n c1 (bytesV (l1.take n)) := by
        have := h1.rd.rd.pre (hi := n) (by omega)
        simpa [bytesV, List.map_take] using this
      have hstr := run_str (P := Tryd.prog) w1 Tryd.underlying25 Tryd.underlying5 Tryd.underlying9 hpre
      have HL2 := hide hl2
      have HRD := hide hr2
      clear hl2 hr2 hpre hl1
      go_wp2_with fail
      go_ret
      exact ⟨by rw [HR.out]; rfl, ⟨A2, c1 - n, by rw [HR.out]; dsimp only; rw [← HL2.out]; exact h1.set0 HRD.out⟩, ho.set 0 _⟩
end Go.Proofs.YtbcnekaagkdmeaaDoor
