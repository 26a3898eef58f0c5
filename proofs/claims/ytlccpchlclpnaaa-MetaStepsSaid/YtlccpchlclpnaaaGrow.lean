/- PLAIN LAWS of schemas that grew: they may be; rows lifted into them and back. No program's step in sight. -/
import Derived.Test.YtlccpchlclpnaaaLiftC
namespace Go.Proofs.Ytlccpchlclpnaaa
open Go.RowKit

theorem getD_app_left {α : Type} [Inhabited α] (a b : List α) (i : Nat) (h : i < a.length) : (a ++ b).getD i default = a.getD i default := by simp [List.getD, List.getElem?_append_left h]
theorem getD_app_right {α : Type} [Inhabited α] (a b : List α) (i : Nat) (h : a.length ≤ i) : (a ++ b).getD i default = b.getD (i - a.length) default := by simp [List.getD, List.getElem?_append_right h]
theorem errFrom_zero (l : List Fd) : ∀ b i, errFrom l b i = 0 → ∀ j, i ≤ j → j < i + b → errAt l j = 0 := by
  intro b
  induction b with
  | zero => intro i _ j h1 h2; omega
  | succ b ih =>
    intro i h j h1 h2
    by_cases h0 : errAt l i = 0
    · rw [errFrom_no l b i h0] at h
      by_cases e : j = i
      · rw [e]; exact h0
      · exact ih (i + 1) h j (by omega) (by omega)
    · rw [errFrom_yes l b i h0] at h
      exact absurd h h0
theorem errFrom_all (l : List Fd) : ∀ b i, (∀ j, i ≤ j → j < i + b → errAt l j = 0) → errFrom l b i = 0 := by
  intro b
  induction b with
  | zero => intro i _; rfl
  | succ b ih =>
    intro i h
    rw [errFrom_no l b i (h i (Nat.le_refl _) (by omega))]
    exact ih (i + 1) fun j h1 h2 => h j (by omega) (by omega)
theorem check_all {id : UInt32} {l : List Fd} (h : check id l = 0) : ∀ j, j < l.length → errAt l j = 0 := by
  have h2 := check_len h
  unfold check at h
  rw [if_neg (by omega)] at h
  exact fun j hj => errFrom_zero l _ _ h j (Nat.zero_le _) (by omega)
theorem check_of {id : UInt32} {l : List Fd} (h1 : 1 ≤ id.toNat) (h2 : 1 ≤ l.length) (h3 : l.length ≤ 8) (h : ∀ j, j < l.length → errAt l j = 0) : check id l = 0 := by
  unfold check
  rw [if_neg (by omega)]
  exact errFrom_all l _ _ fun j _ hj => h j (by omega)
theorem wasId_app (l m : List Fd) (i : Nat) (h : i ≤ l.length) : wasId (l ++ m) i = wasId l i := by
  unfold wasId
  by_cases h0 : i = 0
  · rw [if_pos h0, if_pos h0]
  · rw [if_neg h0, if_neg h0, getD_app_left l m (i - 1) (by omega)]
theorem errAt_app (l m : List Fd) (i : Nat) (h : i < l.length) : errAt (l ++ m) i = errAt l i := by
  unfold errAt
  rw [getD_app_left l m i h, wasId_app l m i (Nat.le_of_lt h), List.take_append_of_le_length (Nat.le_of_lt h)]
/-- what a field that may be says -/
theorem errAt_facts {l : List Fd} {k : Nat} (h : errAt l k = 0) : ¬ (l.getD k default).id.toNat ≤ wasId l k ∧ ((l.getD k default).need = decide (k = 0)) := by
  unfold errAt at h
  dsimp only at h
  split at h
  · omega
  · next h1 =>
    split at h
    · omega
    · split at h
      · omega
      · split at h
        · omega
        · next h4 =>
          refine ⟨h1, ?_⟩
          cases hn : (l.getD k default).need <;> cases hk : decide (k = 0) <;> simp_all
/-- Ids ascend -/
theorem ids_lt {l : List Fd} (h : ∀ j, j < l.length → errAt l j = 0) : ∀ j i, i < j → j < l.length → (l.getD i default).id.toNat < (l.getD j default).id.toNat := by
  intro j
  induction j with
  | zero => intro i h1; omega
  | succ j ih =>
    intro i h1 h2
    have h3 := (errAt_facts (h (j + 1) h2)).1
    have h4 : wasId l (j + 1) = (l.getD j default).id.toNat := wasId_next
    rw [h4] at h3
    by_cases e : i = j
    · rw [e]; omega
    · have := ih i (by omega) (by omega)
      omega
theorem place_own {l : List Fd} (h : ∀ j, j < l.length → errAt l j = 0) (i : Nat) (hi : i < l.length) : placeOf (l.getD i default).id.toNat l = (i : Int) := by
  refine idxF_hit hi (by simp) fun j hj => ?_
  have := ids_lt h i j hj hi
  rw [beq_eq_false_iff_ne]
  omega
theorem place_pre {l m : List Fd} (h : ∀ j, j < (l ++ m).length → errAt (l ++ m) j = 0) (i : Nat) (hi : i < (l ++ m).length) :
    placeOf ((l ++ m).getD i default).id.toNat l = if i < l.length then (i : Int) else -1 := by
  have hl : ∀ j, j < l.length → errAt l j = 0 := fun j hj => by
    rw [← errAt_app l m j hj]
    exact h j (by simp; omega)
  by_cases h1 : i < l.length
  · rw [if_pos h1, getD_app_left l m i h1]
    exact place_own hl i h1
  · rw [if_neg h1]
    refine idxF_none fun j hj => ?_
    have h2 := ids_lt h i j (by omega) hi
    rw [getD_app_left l m j hj] at h2
    rw [beq_eq_false_iff_ne]
    omega

/-- with a field more -/
theorem check_grown {id : UInt32} {l : List Fd} {name : ByteArray} {k : Nat} (hk : k < 256) (h : addErr id l name k = 0) :
    check id l = 0 ∧ addId id l name k = UInt32.ofNat (id.toNat + 1) ∧ id.toNat + 1 < 4294967296 ∧ addFds id l name k = l ++ [newFd l name k] ∧ check (addId id l name k) (l ++ [newFd l name k]) = 0 := by
  have hc : check id l = 0 := by
    cases hcc : check id l with
    | zero => rfl
    | succ n => have := (add_check (name := name) (k := k) (show check id l ≠ 0 by omega)).1; omega
  have hne : ¬ (l.length = 8 ∨ lastId l = 4294967295 ∨ id.toNat = 4294967295) := fun q => by have := (add_4 (name := name) (k := k) hc q).1; omega
  have h80 : (!named name || hasName l name) = false := by
    cases hq : (!named name || hasName l name) with
    | false => rfl
    | true => have := (add_80 (name := name) (k := k) hc hne hq).1; omega
  have h10 : ¬ (k < 1 ∨ 3 < k) := fun q => by have := (add_10 (name := name) (k := k) hc hne h80 q).1; omega
  obtain ⟨_, e2, e3⟩ := add_0 (name := name) (k := k) hc hne h80 h10
  have hidb := id.toNat_lt
  have hid : id.toNat + 1 < 4294967296 := by omega
  obtain ⟨c1, c2, c3⟩ := check_len hc
  refine ⟨hc, e2, hid, e3, ?_⟩
  have hall := check_all hc
  refine check_of (by rw [e2, ofNat32 hid]; omega) (by simp) (by simp; omega) fun j hj => ?_
  by_cases hjl : j < l.length
  · rw [errAt_app l _ j hjl]; exact hall j hjl
  · have hje : j = l.length := by simp at hj; omega
    subst hje
    have hget : (l ++ [newFd l name k]).getD l.length default = newFd l name k := by rw [getD_app_right _ _ _ (Nat.le_refl _)]; simp
    have hlast : lastId l < 4294967296 := UInt32.toNat_lt _
    have hid2 : (newFd l name k).id.toNat = lastId l + 1 := by unfold newFd; exact ofNat32 (by omega)
    have hkind : (newFd l name k).kind.toNat = k := ofNat8 hk
    have hwas : wasId (l ++ [newFd l name k]) l.length = lastId l := by
      rw [wasId_app _ _ _ (Nat.le_refl _)]
      unfold wasId lastId
      rw [if_neg (by omega)]
    refine errAt_0 hget (by rw [hid2, hwas]; omega) ?_ (by rw [hkind]; exact h10) ?_
    · rw [List.take_left]; exact h80
    · have : l.length ≠ 0 := by omega
      simp [newFd, this]

/-- rows, lifted on -/
theorem lift_on {l m : List Fd} (h : ∀ j, j < (l ++ m).length → errAt (l ++ m) j = 0) (row : List Vl) (hr : row.length = l.length) : liftRow l (l ++ m) row = row ++ List.replicate m.length .none := by
  symm
  refine liftRow_of (by simp [hr]) fun j hj => ?_
  unfold liftAt
  rw [place_pre h j hj]
  by_cases h1 : j < l.length
  · rw [if_pos h1, if_pos ⟨by omega, by omega⟩, Int.toNat_natCast, getD_app_left _ _ _ (by omega)]
  · rw [if_neg h1, if_neg (by omega), getD_app_right _ _ _ (by omega)]
    simp [List.getD, List.getElem?_replicate]
    split <;> rfl
/-- and back -/
theorem lift_back {l m : List Fd} (h : ∀ j, j < (l ++ m).length → errAt (l ++ m) j = 0) (row more : List Vl) (hr : row.length = l.length) (hm : more.length = m.length) : liftRow (l ++ m) l (row ++ more) = row := by
  symm
  refine liftRow_of hr fun j hj => ?_
  unfold liftAt
  have hp := place_own h j (by simp; omega)
  rw [getD_app_left l m j hj] at hp
  rw [hp, if_pos ⟨by omega, by simp; omega⟩, Int.toNat_natCast, getD_app_left _ _ _ (by omega)]
/-- a row that fits, lifted on, fits -/
theorem fit_on {l m : List Fd} (h : ∀ j, j < (l ++ m).length → errAt (l ++ m) j = 0) (h1 : 1 ≤ l.length) (row : List Vl) (hf : fitErr l row = 0) : row.length = l.length ∧ fitErr (l ++ m) (row ++ List.replicate m.length .none) = 0 := by
  have hlen : row.length = l.length := by
    unfold fitErr at hf
    split at hf
    · omega
    · next q => exact Decidable.not_not.1 q
  have hall : ∀ j, j < l.length → fitAt l row j = 0 := by
    unfold fitErr at hf
    rw [if_neg (by simpa using hlen)] at hf
    have key : ∀ b i, firstE (fitAt l row) b i = 0 → ∀ j, i ≤ j → j < i + b → fitAt l row j = 0 := by
      intro b
      induction b with
      | zero => intro i _ j q1 q2; omega
      | succ b ih =>
        intro i q j q1 q2
        by_cases h0 : fitAt l row i = 0
        · simp only [firstE, h0, if_true] at q
          by_cases e : j = i
          · rw [e]; exact h0
          · exact ih (i + 1) q j (by omega) (by omega)
        · simp only [firstE, h0, if_false] at q
    exact fun j hj => key _ _ hf j (Nat.zero_le _) (by omega)
  refine ⟨hlen, ?_⟩
  unfold fitErr
  rw [if_neg (by simp [hlen])]
  have all2 : ∀ j, j < (l ++ m).length → fitAt (l ++ m) (row ++ List.replicate m.length .none) j = 0 := by
    intro j hj
    by_cases hjl : j < l.length
    · have := hall j hjl
      unfold fitAt at this ⊢
      rw [getD_app_left _ _ _ (show j < row.length by omega), getD_app_left l m j hjl]
      exact this
    · have hn := (errAt_facts (h j hj)).2
      have hg : (row ++ List.replicate m.length Vl.none).getD j default = .none := by
        rw [getD_app_right _ _ _ (by omega)]
        simp [List.getD, List.getElem?_replicate]
        split <;> rfl
      unfold fitAt
      rw [hg]
      simp only
      rw [hn, decide_eq_false (show ¬ j = 0 by omega)]
      rfl
  have key : ∀ b i, (∀ j, i ≤ j → j < i + b → fitAt (l ++ m) (row ++ List.replicate m.length .none) j = 0) → firstE (fitAt (l ++ m) (row ++ List.replicate m.length .none)) b i = 0 := by
    intro b
    induction b with
    | zero => intro i _; rfl
    | succ b ih =>
      intro i q
      simp only [firstE, q i (Nat.le_refl _) (by omega), if_true]
      exact ih (i + 1) fun j q1 q2 => q j (by omega) (by omega)
  exact key _ _ fun j _ q2 => all2 j (by omega)
end Go.Proofs.Ytlccpchlclpnaaa
