/- PLAIN LAWS of signs and of fields' names. No program in sight. -/
import Derived.Lib.DecodeN
import Derived.Lib.RuneCountTail
namespace Go.Proofs.Ytlccpchlclpnaaa
open Go.Lib

def sgn (s : ByteArray) (p : Nat) : Nat := (Utf8.decode s p).1
def wid (s : ByteArray) (p : Nat) : Nat := (Utf8.decode s p).2
theorem wid_pos (s : ByteArray) (p : Nat) (h : p < s.size) : 0 < wid s p := Lib.decode_width_pos s p h

/-- a sign that belongs to bytes that are one's -/
def cleanAt (s : ByteArray) (p : Nat) : Bool := !(decide (sgn s p = 65533) && decide (wid s p = 1))
/-- a sign that may stand in a name at place p -/
def fairAt (s : ByteArray) (p : Nat) : Bool := decide (97 ≤ sgn s p ∧ sgn s p ≤ 122 ∨ sgn s p = 95 ∨ 127 < sgn s p ∨ 48 ≤ sgn s p ∧ sgn s p ≤ 57 ∧ 0 < p)
/-- so at each place at which a sign begins -/
def allFrom (s : ByteArray) (q : Nat → Bool) : Nat → Nat → Bool
  | 0, _ => true
  | b + 1, p => if p < s.size then q p && allFrom s q b (p + wid s p) else true
theorem allFrom_end (s : ByteArray) (q : Nat → Bool) (b p : Nat) (h : ¬ p < s.size) : allFrom s q b p = true := by
  cases b with
  | zero => rfl
  | succ b => simp [allFrom, h]
theorem allFrom_no (s : ByteArray) (q : Nat → Bool) (b p : Nat) (h : p < s.size) (hb : s.size ≤ p + b) (hq : q p = false) : allFrom s q b p = false := by
  cases b with
  | zero => omega
  | succ b => simp [allFrom, h, hq]
theorem allFrom_yes (s : ByteArray) (q : Nat → Bool) (b p : Nat) (h : p < s.size) (hb : s.size ≤ p + b) (hq : q p = true) : ∃ b', allFrom s q b p = allFrom s q b' (p + wid s p) ∧ s.size ≤ p + wid s p + b' := by
  have := wid_pos s p h
  cases b with
  | zero => omega
  | succ b => exact ⟨b, by simp [allFrom, h, hq], by omega⟩
def isClean (s : ByteArray) : Bool := allFrom s (cleanAt s) s.size 0
def isFair (s : ByteArray) : Bool := allFrom s (fairAt s) s.size 0
/-- may a field's name be? -/
def named (s : ByteArray) : Bool := decide (1 ≤ s.size) && decide (s.size ≤ 16) && isClean s && isFair s

/-! ### one sign, by its bytes -/
theorem decodeN_low (n b0 b1 b2 b3 : Nat) (h : b0 < 128) : decodeN n b0 b1 b2 b3 = (b0, 1) := by unfold decodeN; rw [if_pos h]
/-- what U+FFFD is decoded of: its own three bytes, or bytes that are none's -/
theorem decodeN_odd (n b0 b1 b2 b3 : Nat) (h0 : b0 < 256) (h1 : b1 < 256) (h2 : b2 < 256) (h : (decodeN n b0 b1 b2 b3).1 = 65533) :
    (decodeN n b0 b1 b2 b3).2 = 1 ∧ ¬ (2 < n ∧ b0 = 239 ∧ b1 = 191 ∧ b2 = 189) ∨ (decodeN n b0 b1 b2 b3).2 = 3 ∧ 2 < n ∧ b0 = 239 ∧ b1 = 191 ∧ b2 = 189 := by
  by_cases hq : 2 < n ∧ b0 = 239 ∧ b1 = 191 ∧ b2 = 189
  · refine .inr ⟨?_, hq⟩
    obtain ⟨hn2, rfl, rfl, rfl⟩ := hq
    unfold decodeN
    simp [hn2, show 1 < n by omega]
  · refine .inl ⟨?_, hq⟩
    generalize hr : decodeN n b0 b1 b2 b3 = r at *
    unfold decodeN at hr
    repeat' split at hr
    all_goals (subst hr; dsimp only at h ⊢; try omega)
def hasPre (a b : ByteArray) : Bool := decide (b.size ≤ a.size) && ((a.extract 0 b.size).toList == b.toList)
theorem pre_odd (t : ByteArray) : hasPre t ⟨#[239, 191, 189]⟩ = decide (2 < t.size ∧ (t.get! 0).toNat = 239 ∧ (t.get! 1).toNat = 191 ∧ (t.get! 2).toNat = 189) := by
  unfold hasPre
  have e0 : (ByteArray.mk #[239, 191, 189]).toList = [239, 191, 189] := by rw [Lib.toList_data]
  have e1 : (ByteArray.mk #[239, 191, 189]).size = 3 := rfl
  have e2 : (t.extract 0 3).toList = t.data.toList.take 3 := by
    rw [Lib.toList_data, ByteArray.data_extract, Array.toList_extract]
    simp
  rw [e0, e1, e2, ← Lib.getD_get!', ← Lib.getD_get!', ← Lib.getD_get!', Lib.size_eq]
  generalize t.data.toList = L
  rcases L with _ | ⟨a, _ | ⟨b, _ | ⟨c, L⟩⟩⟩
  · simp
  · simp
  · simp
  · rw [Bool.eq_iff_iff]
    simp [← UInt8.toNat_inj]
theorem clean_pre (s : ByteArray) (p : Nat) (_h : p < s.size) : (decide (sgn s p = 65533) && !hasPre (s.extract p s.size) ⟨#[239, 191, 189]⟩) = !cleanAt s p := by
  rw [pre_odd]
  have e := Lib.tail_decode s p 0
  rw [Lib.decode_at] at e
  simp only [Nat.zero_add, Nat.sub_zero, Nat.add_zero] at e
  have hs : sgn s p = (Utf8.decode s p).1 := rfl
  have hw : wid s p = (Utf8.decode s p).2 := rfl
  rw [← e] at hs hw
  unfold cleanAt
  rw [hs, hw]
  have h0 := ((s.extract p s.size).get! 0).toNat_lt
  have h1 := ((s.extract p s.size).get! 1).toNat_lt
  have h2 := ((s.extract p s.size).get! 2).toNat_lt
  have h3 := decodeN_odd (s.extract p s.size).size ((s.extract p s.size).get! 0).toNat ((s.extract p s.size).get! 1).toNat ((s.extract p s.size).get! 2).toNat ((s.extract p s.size).get! 3).toNat h0 h1 h2
  clear e hs hw h0 h1 h2
  generalize s.extract p s.size = t at *
  generalize decodeN t.size (t.get! 0).toNat (t.get! 1).toNat (t.get! 2).toNat (t.get! 3).toNat = r at *
  generalize hb : decide (2 < t.size ∧ (t.get! 0).toNat = 239 ∧ (t.get! 1).toNat = 191 ∧ (t.get! 2).toNat = 189) = b
  by_cases h : r.1 = 65533
  · rcases h3 h with ⟨a, q⟩ | ⟨a, q⟩
    · have : b = false := by rw [← hb]; exact decide_eq_false q
      simp [h, a, this]
    · have : b = true := by rw [← hb]; exact decide_eq_true q
      simp [h, a, this]
  · simp [h]
/-- the three classes of a sign's first byte: how many bytes, the least number, what the first byte is above -/
def Cls (k least base b0 : Nat) : Prop := (k = 2 ∧ least = 128 ∧ base = 192 ∧ 194 ≤ b0 ∧ b0 < 224) ∨ (k = 3 ∧ least = 2048 ∧ base = 224 ∧ 224 ≤ b0 ∧ b0 < 240) ∨ (k = 4 ∧ least = 65536 ∧ base = 240 ∧ 240 ≤ b0 ∧ b0 < 245)
/-- the number behind j more bytes -/
def val (b : Nat → Nat) (n0 : Nat) : Nat → Nat
  | 0 => n0
  | j + 1 => val b n0 j * 64 + b (j + 1) - 128
theorem val_1 (b : Nat → Nat) (n0 : Nat) : val b n0 1 = n0 * 64 + b 1 - 128 := rfl
theorem val_2 (b : Nat → Nat) (n0 : Nat) : val b n0 2 = (n0 * 64 + b 1 - 128) * 64 + b 2 - 128 := rfl
theorem val_3 (b : Nat → Nat) (n0 : Nat) : val b n0 3 = ((n0 * 64 + b 1 - 128) * 64 + b 2 - 128) * 64 + b 3 - 128 := rfl
section
open Go.Lib
variable {k least base n : Nat} {b : Nat → Nat}
theorem cls_none (h0 : b 0 < 256) (h : ¬ b 0 < 128) (h1 : ¬ (194 ≤ b 0 ∧ b 0 < 245)) : decodeN n (b 0) (b 1) (b 2) (b 3) = (65533, 1) := by
  unfold decodeN
  rw [if_neg h]
  repeat' split
  all_goals first | rfl | (exfalso; omega)
theorem cls_short (hc : Cls k least base (b 0)) (h : n < k) : decodeN n (b 0) (b 1) (b 2) (b 3) = (65533, 1) := by
  unfold decodeN
  rcases hc with ⟨rfl, rfl, rfl, h1, h2⟩ | ⟨rfl, rfl, rfl, h1, h2⟩ | ⟨rfl, rfl, rfl, h1, h2⟩ <;> rw [if_neg (by omega)] <;> (repeat' split) <;> first | rfl | (exfalso; omega)
theorem cls_cut (hc : Cls k least base (b 0)) (j : Nat) (h1 : 1 ≤ j) (h2 : j < k) (hb : b j < 256) (h : b j < 128 ∨ 192 ≤ b j) : decodeN n (b 0) (b 1) (b 2) (b 3) = (65533, 1) := by
  unfold decodeN
  have hj : j = 1 ∨ j = 2 ∨ j = 3 := by unfold Cls at hc; omega
  rcases hc with ⟨rfl, rfl, rfl, h3, h4⟩ | ⟨rfl, rfl, rfl, h3, h4⟩ | ⟨rfl, rfl, rfl, h3, h4⟩ <;> rw [if_neg (by omega)] <;> rcases hj with rfl | rfl | rfl <;> (repeat' split) <;> first | rfl | (exfalso; omega)
theorem cls_all (hc : Cls k least base (b 0)) (hn : k ≤ n) (h : ∀ j, 1 ≤ j → j < k → 128 ≤ b j ∧ b j < 192) :
    decodeN n (b 0) (b 1) (b 2) (b 3) = if val b (b 0 - base) (k - 1) < least ∨ 1114111 < val b (b 0 - base) (k - 1) ∨ 55296 ≤ val b (b 0 - base) (k - 1) ∧ val b (b 0 - base) (k - 1) < 57344 then (65533, 1) else (val b (b 0 - base) (k - 1), k) := by
  rcases hc with ⟨rfl, rfl, rfl, h3, h4⟩ | ⟨rfl, rfl, rfl, h3, h4⟩ | ⟨rfl, rfl, rfl, h3, h4⟩
  · have q1 := h 1 (by omega) (by omega)
    rw [show 2 - 1 = 1 from rfl, val_1]
    clear h
    generalize b 0 = x0 at *; generalize b 1 = x1 at *; generalize b 2 = x2 at *; generalize b 3 = x3 at *
    unfold decodeN
    rw [if_neg (by omega), if_pos (by omega)]
    split <;> split <;> first | with_reducible rfl | (exfalso; omega) | (apply Prod.ext <;> simp only <;> omega)
  · have q1 := h 1 (by omega) (by omega)
    have q2 := h 2 (by omega) (by omega)
    rw [show 3 - 1 = 2 from rfl, val_2]
    clear h
    generalize b 0 = x0 at *; generalize b 1 = x1 at *; generalize b 2 = x2 at *; generalize b 3 = x3 at *
    unfold decodeN
    rw [if_neg (by omega), if_neg (by omega), if_pos (by omega)]
    split <;> split <;> first | with_reducible rfl | (exfalso; omega) | (apply Prod.ext <;> simp only <;> omega)
  · have q1 := h 1 (by omega) (by omega)
    have q2 := h 2 (by omega) (by omega)
    have q3 := h 3 (by omega) (by omega)
    rw [show 4 - 1 = 3 from rfl, val_3]
    clear h
    generalize b 0 = x0 at *; generalize b 1 = x1 at *; generalize b 2 = x2 at *; generalize b 3 = x3 at *
    unfold decodeN
    rw [if_neg (by omega), if_neg (by omega), if_neg (by omega), if_pos (by omega)]
    split <;> split <;> first | with_reducible rfl | (exfalso; omega) | (apply Prod.ext <;> simp only <;> omega)
theorem val_small (hc : Cls k least base (b 0)) (j : Nat) (h : ∀ i, 1 ≤ i → i < j + 1 → 128 ≤ b i ∧ b i < 192) (hj : j < k) : val b (b 0 - base) j < 2097152 ∧ (j + 1 < k → val b (b 0 - base) j < 32768) ∧ val b (b 0 - base) j < 8388608 := by
  have hj3 : j = 0 ∨ j = 1 ∨ j = 2 ∨ j = 3 := by unfold Cls at hc; omega
  unfold Cls at hc
  rcases hj3 with rfl | rfl | rfl | rfl
  · show b 0 - base < _ ∧ (_ → b 0 - base < _) ∧ b 0 - base < _; omega
  · have q1 := h 1 (by omega) (by omega)
    rw [val_1]; omega
  · have q1 := h 1 (by omega) (by omega)
    have q2 := h 2 (by omega) (by omega)
    rw [val_2]; omega
  · have q1 := h 1 (by omega) (by omega)
    have q2 := h 2 (by omega) (by omega)
    have q3 := h 3 (by omega) (by omega)
    rw [val_3]; omega
end
/-- the bytes of a text, by place -/
def byt (t : ByteArray) (j : Nat) : Nat := (t.get! j).toNat
theorem byt_lt (t : ByteArray) (j : Nat) : byt t j < 256 := (t.get! j).toNat_lt
theorem sgn_byt (t : ByteArray) : Utf8.decode t 0 = Lib.decodeN t.size (byt t 0) (byt t 1) (byt t 2) (byt t 3) := by
  rw [Lib.decode_at]; simp [byt]
end Go.Proofs.Ytlccpchlclpnaaa
