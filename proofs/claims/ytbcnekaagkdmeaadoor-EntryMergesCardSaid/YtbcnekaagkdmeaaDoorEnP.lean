/- PLAIN: entries of manifests: which may be, their bytes, what bytes are read as. No statement of the seat is proved here; no condition. -/
import Derived.Test.YtbcnekaagkdmeaaDoorEnRd
namespace Go.Proofs.YtbcnekaagkdmeaaDoor
open Go.RowKit

/-- a cell -/
structure Ce where
  kind : UInt8
  n : Int64
  s : ByteArray
instance : Inhabited Ce := ⟨⟨0, 0, ByteArray.empty⟩⟩
def Ce.cl (c : Ce) : Cl := ⟨c.kind, c.n.toInt, c.s⟩
/-- a statistic -/
structure St where
  rows : Int64
  nulls : Int64
  som : Bool
  high : Bool
  mn : Ce
  mx : Ce
instance : Inhabited St := ⟨⟨0, 0, false, false, default, default⟩⟩
/-- an entry -/
structure En where
  name : ByteArray
  keys : Bool
  seq : UInt64
  rows : Int64
  sch : UInt32
  stats : List St
instance : Inhabited En := ⟨⟨ByteArray.empty, false, 0, 0, 0, []⟩⟩
/-! ### which may be -/
def bndOk (c : Ce) : Bool := decide (cellErr c.cl = 0) && !decide (c.kind.toNat = 0)
def isZ (c : Ce) : Bool := decide (c.kind.toNat = 0) && (decide (c.n.toInt = 0) && decide (c.s.size = 0))
def statOk (s : St) : Bool :=
  decide (0 ≤ s.nulls.toInt) && (decide (s.rows.toInt ≤ 256) && (decide (s.nulls.toInt ≤ s.rows.toInt) &&
    (if s.som = true then decide (s.nulls.toInt < s.rows.toInt) && (bndOk s.mn && (if s.high = true then bndOk s.mx && decide (s.mn.kind.toNat = s.mx.kind.toNat) else isZ s.mx))
     else decide (s.nulls.toInt = s.rows.toInt) && (!s.high && (isZ s.mn && isZ s.mx)))))
def statsOk (rows : Int64) (l : List St) : Bool := l.all fun s => decide (s.rows.toInt = rows.toInt) && statOk s
def rightE (x : En) : Bool :=
  pathOk x.name && (decide (x.seq.toNat ≤ 1073741824) && (decide (0 ≤ x.rows.toInt) && (decide (x.rows.toInt ≤ 256) && (decide (1 ≤ x.stats.length) && (decide (x.stats.length ≤ 8) && (statsOk x.rows x.stats &&
    (if x.keys = true then decide (x.sch.toNat = 0) && decide (x.stats.length = 1) else !decide (x.sch.toNat = 0))))))))
/-- does a name stand among them? -/
def hasNm (met : List ByteArray) (s : ByteArray) : Bool := met.any fun m => m.toList == s.toList
theorem bytes_same {a b : ByteArray} (h : a.toList = b.toList) : a = b := by
  rw [ByteArray.toList_eq, ByteArray.toList_eq] at h
  cases a; cases b
  simp only [ByteArray.mk.injEq]
  exact Array.toList_inj.1 h
theorem hasNm_iff {met : List ByteArray} {s : ByteArray} : hasNm met s = true ↔ s ∈ met := by
  unfold hasNm
  rw [List.any_eq_true]
  constructor
  · rintro ⟨m, hm, h⟩
    rw [beq_iff_eq] at h
    rw [← bytes_same h]
    exact hm
  · exact fun h => ⟨s, h, by simp⟩
/-- all may be, and each name stands once -/
def allE : List ByteArray → List En → Bool
  | _, [] => true
  | met, x :: l => rightE x && (!hasNm met x.name && allE (met ++ [x.name]) l)
def errE (l : List En) : Nat := if 64 < l.length then 4 else if allE [] l = true then 0 else 1
theorem allE_bad {met : List ByteArray} {l : List En} {k : Nat} (hk : k < l.length) (h : rightE (l.getD k default) = false ∨ (l.getD k default).name ∈ met ++ (l.take k).map En.name) : allE met l = false := by
  induction l generalizing met k with
  | nil => simp at hk
  | cons x l ih =>
    cases k with
    | zero =>
      rcases h with h | h
      · have h : rightE x = false := h
        simp [allE, h]
      · have h : hasNm met x.name = true := hasNm_iff.2 (by simpa using h)
        simp [allE, h]
    | succ k =>
      have := ih (met := met ++ [x.name]) (k := k) (by simpa using hk) (by simpa [List.append_assoc] using h)
      simp [allE, this]
theorem allE_good {met : List ByteArray} {l : List En} (h : ∀ k, k < l.length → rightE (l.getD k default) = true ∧ (l.getD k default).name ∉ met ++ (l.take k).map En.name) : allE met l = true := by
  induction l generalizing met with
  | nil => rfl
  | cons x l ih =>
    have h0 := h 0 (by simp)
    have h1 : rightE x = true := h0.1
    have h2 : hasNm met x.name = false := by
      apply Bool.eq_false_iff.2
      intro q
      have : x.name ∉ met := by simpa using h0.2
      exact this (hasNm_iff.1 q)
    have := ih (met := met ++ [x.name]) fun k hk => by
      have := h (k + 1) (by simpa using hk)
      simpa [List.append_assoc] using this
    simp [allE, h1, h2, this]
theorem allE_has {met : List ByteArray} {l : List En} (h : allE met l = true) : ∀ x ∈ l, rightE x = true := by
  induction l generalizing met with
  | nil => simp
  | cons x l ih =>
    simp only [allE, Bool.and_eq_true] at h
    intro y hy
    rcases List.mem_cons.1 hy with rfl | hy
    · exact h.1
    · exact ih h.2.2 y hy
/-! ### bytes -/
def tx (s : ByteArray) : List UInt8 := Var.put s.size ++ s.data.toList
def cellB (c : Ce) : List UInt8 := if c.kind.toNat = 1 then Var.put (zig c.n.toInt) else if c.kind.toNat = 2 then Var.put c.n.toInt.toNat else tx c.s
def statB (s : St) : List UInt8 :=
  Var.put s.nulls.toInt.toNat ++ (if s.som = false then Var.put 0 else if s.high = true then Var.put 3 ++ (Var.put s.mn.kind.toNat ++ (cellB s.mn ++ cellB s.mx)) else Var.put 1 ++ (Var.put s.mn.kind.toNat ++ cellB s.mn))
def statsB (l : List St) : List UInt8 := l.flatMap statB
def flagN (b : Bool) : Nat := if b = true then 1 else 0
def entB (x : En) : List UInt8 := tx x.name ++ (Var.put (flagN x.keys) ++ (Var.put x.seq.toNat ++ (Var.put x.rows.toInt.toNat ++ (Var.put x.sch.toNat ++ (Var.put x.stats.length ++ statsB x.stats)))))
def entsB (l : List En) : List UInt8 := l.flatMap entB
def mf1 : List UInt8 := [77, 70, 49]
def wrE (l : List En) : List UInt8 := mf1 ++ Var.put l.length ++ entsB l
def wrES (l : List En) : List UInt8 := seal_ (wrE l)
section
variable {α : Type} {f : α → List UInt8} {l : List α} {k : Nat}
theorem flat_next [Inhabited α] (hk : k < l.length) : (l.take (k + 1)).flatMap f = (l.take k).flatMap f ++ f (l.getD k default) := by
  rw [List.take_add_one, List.flatMap_append]
  simp [hk, List.getD]
theorem flat_le {m : Nat} (h : ∀ a ∈ l, (f a).length ≤ m) : (l.flatMap f).length ≤ l.length * m := by
  induction l with
  | nil => simp
  | cons a l ih =>
    rw [List.flatMap_cons, List.length_append, List.length_cons, Nat.succ_mul]
    have h1 := h a (by simp)
    have h2 := ih (fun b hb => h b (by simp [hb]))
    omega
end
/-! ### what holds of those that may be -/
theorem cell_has {c : Cl} (h1 : cellErr c = 0) : c.kind.toNat ≤ 3 ∧ c.s.size ≤ 64 ∧ (c.kind.toNat ≠ 3 → c.s.size = 0) ∧ (c.kind.toNat ≠ 1 → c.kind.toNat ≠ 2 → c.n = 0) ∧ (c.kind.toNat = 2 → c.n = 0 ∨ c.n = 1) := by
  unfold cellErr at h1
  have e := emp_size c.s
  split at h1
  · omega
  split at h1
  · omega
  split at h1
  · omega
  · rename_i a b d
    rw [e] at b
    simp only [decide_eq_false_iff_not] at b
    refine ⟨by omega, by omega, fun q => ?_, fun q r => ?_, fun q => ?_⟩
    · apply Decidable.of_not_not
      intro p
      exact b (.inl ⟨q, p⟩)
    · apply Decidable.of_not_not
      intro p
      exact b (.inr (.inl ⟨q, r, p⟩))
    · apply Decidable.of_not_not
      intro p
      exact b (.inr (.inr ⟨q, fun r => p (.inl r), fun r => p (.inr r)⟩))
theorem bnd_has {c : Ce} (h : bndOk c = true) : c.kind.toNat ≤ 3 ∧ c.kind.toNat ≠ 0 ∧ c.s.size ≤ 64 ∧ (c.kind.toNat ≠ 3 → c.s.size = 0) ∧ (c.kind.toNat = 3 → c.n.toInt = 0) ∧ (c.kind.toNat = 2 → c.n.toInt = 0 ∨ c.n.toInt = 1) := by
  unfold bndOk at h
  simp only [Bool.and_eq_true, decide_eq_true_eq, Bool.not_eq_true', decide_eq_false_iff_not] at h
  obtain ⟨a, b, d, e, f⟩ := cell_has h.1
  exact ⟨a, h.2, b, d, fun q => e (by show c.kind.toNat ≠ 1; omega) (by show c.kind.toNat ≠ 2; omega), f⟩
theorem tx_le (s : ByteArray) (h : s.size ≤ 64) : (tx s).length ≤ 74 := by
  have e1 := Var.put_le10 (n := s.size) (by omega)
  have a4 : s.data.toList.length = s.size := by rw [Array.length_toList]; rfl
  unfold tx
  rw [List.length_append]
  omega
theorem cellB_le {c : Ce} (h : bndOk c = true) : (cellB c).length ≤ 74 := by
  obtain ⟨h1, h2, h3, h4, h5, h6⟩ := bnd_has h
  unfold cellB
  split
  · have := Var.put_le10 (n := zig c.n.toInt) (zig_lt (Int64.le_toInt c.n) (by have := Int64.toInt_lt c.n; omega))
    omega
  split
  · rename_i q
    have := Var.put_le10 (n := c.n.toInt.toNat) (by rcases h6 q with r | r <;> rw [r] <;> decide)
    omega
  · exact tx_le _ h3
theorem stat_has {s : St} (h : statOk s = true) : 0 ≤ s.nulls.toInt ∧ s.nulls.toInt ≤ s.rows.toInt ∧ s.rows.toInt ≤ 256 ∧ (s.som = true → bndOk s.mn = true ∧ (s.high = true → bndOk s.mx = true ∧ s.mn.kind.toNat = s.mx.kind.toNat)) := by
  unfold statOk at h
  simp only [Bool.and_eq_true, decide_eq_true_eq] at h
  obtain ⟨h1, h2, h3, h4⟩ := h
  refine ⟨h1, h3, h2, fun q => ?_⟩
  rw [if_pos q] at h4
  simp only [Bool.and_eq_true, decide_eq_true_eq] at h4
  refine ⟨h4.2.1, fun r => ?_⟩
  have h5 := h4.2.2
  rw [if_pos r] at h5
  simpa only [Bool.and_eq_true, decide_eq_true_eq] using h5
theorem statB_le {s : St} (h : statOk s = true) : (statB s).length ≤ 178 := by
  obtain ⟨h1, h2, h3, h4⟩ := stat_has h
  have e1 := Var.put_le10 (n := s.nulls.toInt.toNat) (by omega)
  have e2 := Var.put_le10 (n := s.mn.kind.toNat) (by have := s.mn.kind.toNat_lt; omega)
  have p0 := Var.put_le10 (n := 0) (by omega)
  have p1 := Var.put_le10 (n := 1) (by omega)
  have p3 := Var.put_le10 (n := 3) (by omega)
  unfold statB
  rw [List.length_append]
  split
  · omega
  · rename_i q
    obtain ⟨b1, b2⟩ := h4 (by simpa using q)
    have c1 := cellB_le b1
    split
    · rename_i r
      have c2 := cellB_le (b2 r).1
      simp only [List.length_append]
      omega
    · simp only [List.length_append]
      omega
theorem path_le {s : ByteArray} (h : pathOk s = true) : 1 ≤ s.size ∧ s.size ≤ 24 := by
  unfold pathOk at h
  simp only [Bool.and_eq_true, decide_eq_true_eq] at h
  exact h.1
theorem right_hasE {x : En} (h : rightE x = true) : pathOk x.name = true ∧ x.seq.toNat ≤ 1073741824 ∧ 0 ≤ x.rows.toInt ∧ x.rows.toInt ≤ 256 ∧ 1 ≤ x.stats.length ∧ x.stats.length ≤ 8 ∧ ∀ s ∈ x.stats, s.rows.toInt = x.rows.toInt ∧ statOk s = true := by
  unfold rightE at h
  simp only [Bool.and_eq_true, decide_eq_true_eq] at h
  obtain ⟨h1, h2, h3, h4, h5, h6, h7, _⟩ := h
  refine ⟨h1, h2, h3, h4, h5, h6, fun s hs => ?_⟩
  have := List.all_eq_true.1 h7 s hs
  simpa only [Bool.and_eq_true, decide_eq_true_eq] using this
theorem entB_le {x : En} (h : rightE x = true) : (entB x).length ≤ 1550 := by
  obtain ⟨h1, h2, h3, h4, h5, h6, h7⟩ := right_hasE h
  have a := path_le h1
  have e1 := tx_le x.name (by omega)
  have e2 := Var.put_le10 (n := flagN x.keys) (by unfold flagN; split <;> omega)
  have e3 := Var.put_le10 (n := x.seq.toNat) (by omega)
  have e4 := Var.put_le10 (n := x.rows.toInt.toNat) (by omega)
  have e5 := Var.put_le10 (n := x.sch.toNat) (by have := x.sch.toNat_lt; omega)
  have e6 := Var.put_le10 (n := x.stats.length) (by omega)
  have e7 : (statsB x.stats).length ≤ x.stats.length * 178 := flat_le fun s hs => statB_le (h7 s hs).2
  have : x.stats.length * 178 ≤ 8 * 178 := Nat.mul_le_mul_right _ h6
  unfold entB
  simp only [List.length_append]
  omega
theorem wrE_le {l : List En} (h : ∀ x ∈ l, rightE x = true) (hl : l.length ≤ 64) : (wrE l).length ≤ 99300 := by
  have e1 := Var.put_le10 (n := l.length) (by omega)
  have e2 : (entsB l).length ≤ l.length * 1550 := flat_le fun x hx => entB_le (h x hx)
  have : l.length * 1550 ≤ 64 * 1550 := Nat.mul_le_mul_right _ hl
  unfold wrE
  simp only [List.length_append]
  have : mf1.length = 3 := rfl
  omega
end Go.Proofs.YtbcnekaagkdmeaaDoor
