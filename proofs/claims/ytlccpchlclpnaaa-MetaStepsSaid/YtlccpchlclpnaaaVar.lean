/- PLAIN LAWS OF VARINTS: lists of bytes and numbers, no program in sight. -/
import Init.Data.List.Lemmas
namespace Go.Proofs.Ytlccpchlclpnaaa
namespace Var

/-- a number's bytes -/
def put (n : Nat) : List UInt8 := if n < 128 then [UInt8.ofNat n] else UInt8.ofNat (n % 128 + 128) :: put (n / 128)
termination_by n
decreasing_by omega

theorem put_lt {n : Nat} (h : n < 128) : put n = [UInt8.ofNat n] := by rw [put, if_pos h]
theorem put_ge {n : Nat} (h : 128 ≤ n) : put n = UInt8.ofNat (n % 128 + 128) :: put (n / 128) := by rw [put, if_neg (by omega)]

theorem put_pos (n : Nat) : 0 < (put n).length := by
  rw [put]; split <;> simp
theorem put_ne (n : Nat) : put n ≠ [] := by
  intro h; have := put_pos n; rw [h] at this; simp at this

theorem put_le (k : Nat) : ∀ n, n < 128 ^ (k + 1) → (put n).length ≤ k + 1 := by
  induction k with
  | zero => intro n h; rw [put_lt (by simpa using h)]; simp
  | succ k ih =>
    intro n h
    by_cases hn : n < 128
    · rw [put_lt hn]; simp
    · rw [put_ge (by omega)]
      have := ih (n / 128) (by rw [Nat.div_lt_iff_lt_mul (by omega)]; rw [Nat.pow_succ] at h; exact h)
      simp; omega
theorem put_le10 {n : Nat} (h : n < 18446744073709551616) : (put n).length ≤ 10 := put_le 9 n (by omega)

theorem put_mono : ∀ (a b : Nat), a ≤ b → (put a).length ≤ (put b).length := by
  intro a
  induction a using Nat.strongRecOn with
  | _ a ih =>
    intro b h
    by_cases ha : a < 128
    · rw [put_lt ha]; have := put_pos b; simp; omega
    · rw [put_ge (by omega : 128 ≤ a), put_ge (by omega : 128 ≤ b)]
      have := ih (a / 128) (by omega) (b / 128) (by omega)
      simpa using this

theorem toNat_ofNat_lt {n : Nat} (h : n < 256) : (UInt8.ofNat n).toNat = n := by
  simp [Nat.mod_eq_of_lt h]

/-- the number that bytes say, the lowest seven bits first -/
def val : List UInt8 → Nat
  | [] => 0
  | c :: r => c.toNat % 128 + 128 * val r

theorem val_put (n : Nat) : val (put n) = n := by
  induction n using Nat.strongRecOn with
  | _ n ih =>
    by_cases h : n < 128
    · rw [put_lt h]; simp only [val]; rw [toNat_ofNat_lt (by omega)]; omega
    · rw [put_ge (by omega)]; simp only [val]; rw [toNat_ofNat_lt (by omega), ih _ (by omega)]; omega
theorem put_inj {a b : Nat} (h : put a = put b) : a = b := by
  have := congrArg val h
  rwa [val_put, val_put] at this

/-- what varint.Get does: at byte i, acc gathered: the number, how many bytes, the error -/
def getL : Nat → Nat → List UInt8 → Nat × Nat × Nat
  | _, _, [] => (0, 0, 30)
  | i, acc, c :: r =>
    if i = 9 ∧ 1 < c.toNat then (0, 0, 31)
    else if c.toNat < 128 then (if c.toNat = 0 ∧ 0 < i then (0, 0, 31) else (acc + (c.toNat % 128) * 2 ^ (7 * i), i + 1, 0))
    else getL (i + 1) (acc + (c.toNat % 128) * 2 ^ (7 * i)) r
def get (l : List UInt8) : Nat × Nat × Nat := getL 0 0 l

/-- how many bytes stand ahead of the first that lacks its topmost bit -/
def lead : List UInt8 → Nat
  | [] => 0
  | c :: r => if c.toNat < 128 then 0 else lead r + 1

theorem lead_le (l : List UInt8) : lead l ≤ l.length := by
  induction l with
  | nil => simp [lead]
  | cons c r ih => simp only [lead]; split <;> simp; omega

theorem get_nine (r : List UInt8) (acc : Nat) : getL 9 acc r = match r with
    | [] => (0, 0, 30)
    | c :: _ => if 1 < c.toNat then (0, 0, 31) else if c.toNat = 0 then (0, 0, 31) else (acc + c.toNat * 2 ^ 63, 10, 0) := by
  cases r with
  | nil => rfl
  | cons c r =>
    simp only [getL]
    by_cases h : 1 < c.toNat
    · simp [h]
    · have h2 : c.toNat < 128 := by omega
      simp only [h, and_false, if_false, h2, if_true]
      by_cases h0 : c.toNat = 0
      · simp [h0]
      · have : c.toNat = 1 := by omega
        simp [this]

/-- Get, by the lead -/
theorem getL_eq (k : Nat) : ∀ (i acc : Nat) (l : List UInt8), i + k = 9 →
    getL i acc l =
      if k < lead l then (0, 0, 31)
      else if lead l = l.length then (0, 0, 30)
      else if (lead l = k ∧ 1 < (l.getD (lead l) 0).toNat) ∨ ((l.getD (lead l) 0).toNat = 0 ∧ 0 < i + lead l) then (0, 0, 31)
      else (acc + val (l.take (lead l + 1)) * 2 ^ (7 * i), i + lead l + 1, 0) := by
  induction k with
  | zero =>
    intro i acc l hi
    obtain rfl : i = 9 := by omega
    rw [get_nine]
    cases l with
    | nil => simp [lead]
    | cons c r =>
      simp only [lead]
      by_cases h : c.toNat < 128
      · simp only [if_pos h]
        by_cases h1 : 1 < c.toNat
        · simp [h1]
        · by_cases h0 : c.toNat = 0
          · simp [h0]
          · have : c.toNat = 1 := by omega
            simp [this, val]
      · have : 1 < c.toNat := by omega
        simp [this, h]
  | succ k ih =>
    intro i acc l hi
    cases l with
    | nil => simp [getL, lead]
    | cons c r =>
      simp only [getL, lead]
      have h9 : ¬ (i = 9 ∧ 1 < c.toNat) := by omega
      rw [if_neg h9]
      by_cases h : c.toNat < 128
      · simp only [if_pos h]
        by_cases h0 : c.toNat = 0 ∧ 0 < i
        · simp [h0]
        · have hm : c.toNat % 128 = c.toNat := by omega
          have h0' : ¬ (c.toNat = 0 ∧ 0 < i) := h0
          simp [h0', val, hm]
      · simp only [if_neg h]
        rw [ih (i + 1) _ r (by omega)]
        have e1 : (k < lead r) ↔ (k + 1 < lead r + 1) := by omega
        have e2 : (lead r = r.length) ↔ (lead r + 1 = (c :: r).length) := by simp
        have e3 : (c :: r).getD (lead r + 1) 0 = r.getD (lead r) 0 := by simp
        have e4 : (lead r = k) ↔ (lead r + 1 = k + 1) := by omega
        have e5 : (0 < i + 1 + lead r) ↔ (0 < i + (lead r + 1)) := by omega
        rw [e3]
        simp only [← e1, ← e2, ← e4, ← e5]
        split
        · rfl
        split
        · rfl
        split
        · rfl
        · have ev : val ((c :: r).take (lead r + 1 + 1)) = c.toNat % 128 + 128 * val (r.take (lead r + 1)) := by simp [val]
          rw [ev]
          have ep : 2 ^ (7 * (i + 1)) = 128 * 2 ^ (7 * i) := by rw [Nat.mul_add, Nat.pow_add]; omega
          rw [ep]
          simp only [Prod.mk.injEq, and_true]
          refine ⟨?_, by omega⟩
          rw [Nat.add_mul, Nat.add_assoc]
          congr 2
          rw [← Nat.mul_assoc, Nat.mul_comm (val _) 128]

theorem get_eq (l : List UInt8) : get l =
      if 9 < lead l then (0, 0, 31)
      else if lead l = l.length then (0, 0, 30)
      else if (lead l = 9 ∧ 1 < (l.getD (lead l) 0).toNat) ∨ ((l.getD (lead l) 0).toNat = 0 ∧ 0 < lead l) then (0, 0, 31)
      else (val (l.take (lead l + 1)), lead l + 1, 0) := by
  unfold get
  rw [getL_eq 9 0 0 l rfl]
  simp

/-- a text that is a number's bytes -/
theorem put_val : ∀ (l : List UInt8), lead l < l.length → ¬ ((l.getD (lead l) 0).toNat = 0 ∧ 0 < lead l) → put (val (l.take (lead l + 1))) = l.take (lead l + 1)
  | [], h, _ => by simp [lead] at h
  | c :: r, h, hz => by
    simp only [lead] at h hz ⊢
    by_cases hc : c.toNat < 128
    · simp only [if_pos hc]
      simp only [Nat.zero_add, List.take_succ_cons, List.take_zero, val]
      have : c.toNat % 128 + 128 * 0 = c.toNat := by omega
      rw [this, put_lt hc]
      simp
    · simp only [if_neg hc] at h hz ⊢
      have hr : lead r < r.length := by simpa using h
      have hg : (c :: r).getD (lead r + 1) 0 = r.getD (lead r) 0 := by simp
      rw [hg] at hz
      have hnz : (r.getD (lead r) 0).toNat ≠ 0 := fun e => hz ⟨e, by omega⟩
      have ih := put_val r hr (fun e => hnz e.1)
      have ev : val ((c :: r).take (lead r + 1 + 1)) = c.toNat % 128 + 128 * val (r.take (lead r + 1)) := by simp [val]
      rw [ev]
      have hpos : 0 < val (r.take (lead r + 1)) := val_pos r hr hnz
      rw [put_ge (by omega)]
      have hlt := c.toNat_lt
      have e1 : (c.toNat % 128 + 128 * val (r.take (lead r + 1))) % 128 + 128 = c.toNat := by omega
      have e2 : (c.toNat % 128 + 128 * val (r.take (lead r + 1))) / 128 = val (r.take (lead r + 1)) := by omega
      rw [e1, e2, ih]
      simp
where
  val_pos : ∀ (l : List UInt8), lead l < l.length → (l.getD (lead l) 0).toNat ≠ 0 → 0 < val (l.take (lead l + 1))
  | [], h, _ => by simp [lead] at h
  | c :: r, h, hz => by
    simp only [lead] at h hz ⊢
    by_cases hc : c.toNat < 128
    · simp only [if_pos hc] at hz ⊢
      simp at hz
      simp only [Nat.zero_add, List.take_succ_cons, List.take_zero, val]
      omega
    · simp only [if_neg hc] at h hz ⊢
      have hg : (c :: r).getD (lead r + 1) 0 = r.getD (lead r) 0 := by simp
      rw [hg] at hz
      have := val_pos r (by simpa using h) hz
      have ev : val ((c :: r).take (lead r + 1 + 1)) = c.toNat % 128 + 128 * val (r.take (lead r + 1)) := by simp [val]
      rw [ev]; omega

theorem lead_put (n : Nat) : ∀ rest, lead (put n ++ rest) = (put n).length - 1 := by
  induction n using Nat.strongRecOn with
  | _ n ih =>
    intro rest
    by_cases h : n < 128
    · rw [put_lt h]
      simp only [List.cons_append, List.nil_append, lead]
      rw [if_pos (by rw [toNat_ofNat_lt (by omega)]; exact h)]
      simp
    · rw [put_ge (by omega)]
      simp only [List.cons_append, lead]
      rw [if_neg (by rw [toNat_ofNat_lt (by omega)]; omega), ih _ (by omega)]
      have := put_pos (n / 128)
      simp; omega

/-- the last byte of a number -/
theorem put_last (n : Nat) : ∀ rest, ((put n ++ rest).getD ((put n).length - 1) 0).toNat = 0 → n = 0 := by
  induction n using Nat.strongRecOn with
  | _ n ih =>
    intro rest
    by_cases h : n < 128
    · rw [put_lt h]
      simp only [List.cons_append, List.nil_append, List.length_cons, List.length_nil, Nat.zero_add, Nat.sub_self, List.getD_cons_zero]
      rw [toNat_ofNat_lt (by omega)]
      exact id
    · rw [put_ge (by omega)]
      have hp := put_pos (n / 128)
      intro hz
      have : (UInt8.ofNat (n % 128 + 128) :: put (n / 128)).length - 1 = ((put (n / 128)).length - 1) + 1 := by simp; omega
      rw [this, List.cons_append, List.getD_cons_succ] at hz
      have := ih (n / 128) (by omega) rest hz
      omega
/-- the tenth byte is 0 or 1 -/
theorem put_tenth (k : Nat) : ∀ (n : Nat) (rest : List UInt8), n < 2 * 128 ^ k → (put n).length = k + 1 → ((put n ++ rest).getD ((put n).length - 1) 0).toNat ≤ 1 := by
  induction k with
  | zero =>
    intro n rest h hl
    have h2 : n < 2 := by simpa using h
    rw [put_lt (by omega)]
    simp only [List.cons_append, List.nil_append, List.length_cons, List.length_nil, Nat.zero_add, Nat.sub_self, List.getD_cons_zero]
    rw [toNat_ofNat_lt (by omega)]
    omega
  | succ k ih =>
    intro n rest h hl
    by_cases h1 : n < 128
    · rw [put_lt h1] at hl; simp at hl
    · rw [put_ge (by omega)] at hl ⊢
      have hl' : (put (n / 128)).length = k + 1 := by simpa using hl
      have : (UInt8.ofNat (n % 128 + 128) :: put (n / 128)).length - 1 = ((put (n / 128)).length - 1) + 1 := by simp; omega
      rw [this, List.cons_append, List.getD_cons_succ]
      exact ih (n / 128) rest (by rw [Nat.div_lt_iff_lt_mul (by omega)]; rw [Nat.pow_succ] at h; omega) hl'

theorem get_put {n : Nat} (h : n < 18446744073709551616) (rest : List UInt8) : get (put n ++ rest) = (n, (put n).length, 0) := by
  have hp := put_pos n
  have hle := put_le10 h
  have hl := lead_put n rest
  rw [get_eq, hl]
  rw [if_neg (by omega), if_neg (by simp; omega)]
  have hcond : ¬ (((put n).length - 1 = 9 ∧ 1 < ((put n ++ rest).getD ((put n).length - 1) 0).toNat) ∨ (((put n ++ rest).getD ((put n).length - 1) 0).toNat = 0 ∧ 0 < (put n).length - 1)) := by
    rintro (⟨h9, h1⟩ | ⟨h0, h1⟩)
    · have := put_tenth 9 n rest (by omega) (by omega)
      omega
    · have := put_last n rest h0
      subst this
      simp [put_lt] at h1
  rw [if_neg hcond]
  have e : (put n).length - 1 + 1 = (put n).length := by omega
  rw [e, List.take_left, val_put]

theorem lead_take (n k : Nat) (hk : k < (put n).length) : lead ((put n).take k) = k := by
  induction n using Nat.strongRecOn generalizing k with
  | _ n ih =>
    cases k with
    | zero => simp [lead]
    | succ k =>
      by_cases h : n < 128
      · rw [put_lt h] at hk; simp at hk
      · rw [put_ge (by omega)] at hk ⊢
        simp only [List.take_succ_cons, lead]
        rw [if_neg (by rw [toNat_ofNat_lt (by omega)]; omega), ih _ (by omega) k (by simpa using hk)]
/-- what is cut off is at its end -/
theorem get_cut {n : Nat} (h : n < 18446744073709551616) {k : Nat} (hk : k < (put n).length) : get ((put n).take k) = (0, 0, 30) := by
  have hle := put_le10 h
  rw [get_eq, lead_take n k hk, if_neg (by omega), if_pos (by rw [List.length_take]; omega)]

/-- what Get takes are just a number's bytes -/
theorem get_ok {l : List UInt8} {n k : Nat} (h : get l = (n, k, 0)) : put n = l.take k ∧ k ≤ l.length ∧ 0 < k := by
  rw [get_eq] at h
  have hle := lead_le l
  split at h
  · simp at h
  split at h
  · simp at h
  split at h
  · simp at h
  · rename_i h1 h2 h3
    simp only [Prod.mk.injEq, and_true] at h
    obtain ⟨rfl, rfl⟩ := h
    exact ⟨put_val l (by omega) (fun e => h3 (.inr e)), by omega, by omega⟩
theorem val_lt (l : List UInt8) : val l < 128 ^ l.length := by
  induction l with
  | nil => simp [val]
  | cons c r ih => simp only [val, List.length_cons, Nat.pow_succ]; omega
theorem val_last (l : List UInt8) (k : Nat) (h : l.length = k + 1) (b : Nat) (hb : (l.getD k 0).toNat ≤ b) (hb2 : b < 128) : val l < (b + 1) * 128 ^ k := by
  induction l generalizing k with
  | nil => simp at h
  | cons c r ih =>
    cases k with
    | zero =>
      have : r = [] := by simpa using h
      subst this
      simp at hb
      simp [val]; omega
    | succ k =>
      have := ih k (by simpa using h) (by simpa using hb)
      simp only [val, Nat.pow_succ]
      have e : (b + 1) * (128 ^ k * 128) = 128 * ((b + 1) * 128 ^ k) := by rw [← Nat.mul_assoc, Nat.mul_comm]
      rw [e]; omega
theorem get_lt (l : List UInt8) : (get l).1 < 18446744073709551616 := by
  rw [get_eq]
  split
  · simp
  split
  · simp
  split
  · simp
  · rename_i h1 h2 h3
    have hle := lead_le l
    by_cases h9 : lead l = 9
    · have hb : (l.getD 9 0).toNat ≤ 1 := by
        rw [h9] at h3
        omega
      have hlen : (l.take 10).length = 10 := by rw [List.length_take]; omega
      have hg : ((l.take 10).getD 9 0) = l.getD 9 0 := by simp [List.getD]
      have := val_last (l.take 10) 9 hlen 1 (by rw [hg]; exact hb) (by omega)
      rw [h9]
      simpa using this
    · have hv := val_lt (l.take (lead l + 1))
      have hlen : (l.take (lead l + 1)).length ≤ 9 := by rw [List.length_take]; omega
      have hp : 128 ^ (l.take (lead l + 1)).length ≤ 128 ^ 9 := Nat.pow_le_pow_right (by omega) hlen
      simp only
      omega
theorem get_err (l : List UInt8) : (get l).2.2 = 0 ∨ (get l).2.2 = 30 ∨ (get l).2.2 = 31 := by
  rw [get_eq]
  split
  · simp
  split
  · simp
  split <;> simp
theorem get_used (l : List UInt8) : (get l).2.1 ≤ 10 := by
  rw [get_eq]
  split
  · simp
  split
  · simp
  split
  · simp
  · simp; omega
theorem lead_step (l : List UInt8) (k : Nat) (h : k ≤ lead l) (hk : k < l.length) : if 128 ≤ (l[k]).toNat then k + 1 ≤ lead l else lead l = k := by
  induction l generalizing k with
  | nil => simp at hk
  | cons c r ih =>
    cases k with
    | zero =>
      simp only [List.getElem_cons_zero, lead]
      by_cases hc : c.toNat < 128
      · rw [if_neg (by omega), if_pos hc]
      · rw [if_pos (by omega), if_neg hc]; omega
    | succ k =>
      simp only [lead] at h ⊢
      by_cases hc : c.toNat < 128
      · rw [if_pos hc] at h; omega
      · rw [if_neg hc] at h
        have := ih k (by omega) (by simpa using hk)
        simp only [List.getElem_cons_succ, if_neg hc]
        split
        · rename_i h1; rw [if_pos h1] at this; omega
        · rename_i h1; rw [if_neg h1] at this; omega
theorem val_drop_le (l : List UInt8) (j : Nat) : val (l.drop j) ≤ val l := by
  induction l generalizing j with
  | nil => simp
  | cons c r ih =>
    cases j with
    | zero => simp
    | succ j => simp only [List.drop_succ_cons, val]; have := ih j; omega
theorem val_drop_step (l : List UInt8) (j : Nat) (h : j < l.length) : val (l.drop j) = (l[j]).toNat % 128 + 128 * val (l.drop (j + 1)) := by
  rw [List.drop_eq_getElem_cons h]; rfl
theorem put_ne_of_end (T : List UInt8) (k : Nat) (hl : T.length = k + 1) (hk : 0 < k) (h0 : (T.getD k 0).toNat = 0) (n : Nat) : put n ≠ T := by
  intro e
  have hz := put_last n []
  rw [List.append_nil, e, hl] at hz
  have := hz (by simpa using h0)
  subst this
  rw [put_lt (by omega)] at e
  rw [← e] at hl
  simp at hl
  omega
/-- the number of the first lead + 1 bytes fits, where the tenth is 0 or 1 -/
theorem val_fits (l : List UInt8) (k : Nat) (hk : k < l.length) (h9 : k ≤ 9) (h : k = 9 → (l[k]).toNat ≤ 1) : val (l.take (k + 1)) < 18446744073709551616 := by
  by_cases e : k = 9
  · subst e
    have hb := h rfl
    have hlen : (l.take 10).length = 10 := by rw [List.length_take]; omega
    have hg : ((l.take 10).getD 9 0).toNat ≤ 1 := by simpa [List.getD, hk] using hb
    have := val_last (l.take 10) 9 hlen 1 hg (by omega)
    simpa using this
  · have hv := val_lt (l.take (k + 1))
    have hlen : (l.take (k + 1)).length ≤ 9 := by rw [List.length_take]; omega
    have hp : 128 ^ (l.take (k + 1)).length ≤ 128 ^ 9 := Nat.pow_le_pow_right (by omega) hlen
    omega
end Var
end Go.Proofs.Ytlccpchlclpnaaa
