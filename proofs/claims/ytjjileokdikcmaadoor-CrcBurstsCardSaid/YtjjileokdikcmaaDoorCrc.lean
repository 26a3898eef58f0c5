/- PLAIN LAWS OF THE SUM CRC-32: words of 32 bits, no program in sight. -/
import Init.Data.BitVec.Lemmas
namespace Go.Proofs.YtjjileokdikcmaaDoor
namespace Crc
abbrev W := BitVec 32
def poly : W := 0xedb88320#32
def bit (c : W) : W := (c >>> 1) ^^^ (if c.getLsbD 0 then poly else 0#32)
def bits : Nat → W → W
  | 0, c => c
  | n + 1, c => bits n (bit c)
def byteS (c : W) (x : UInt8) : W := bits 8 (c ^^^ BitVec.ofNat 32 x.toNat)
def tab (n : Nat) : W := [0x00000000#32, 0x1db71064#32, 0x3b6e20c8#32, 0x26d930ac#32, 0x76dc4190#32, 0x6b6b51f4#32, 0x4db26158#32, 0x5005713c#32, 0xedb88320#32, 0xf00f9344#32, 0xd6d6a3e8#32, 0xcb61b38c#32, 0x9b64c2b0#32, 0x86d3d2d4#32, 0xa00ae278#32, 0xbdbdf21c#32].getD n 0#32
def half (c : W) : W := (c >>> 4) ^^^ tab (c.toNat % 16)
def raw (c : W) (l : List UInt8) : W := l.foldl byteS c
def more (c : W) (l : List UInt8) : W := ~~~ (raw (~~~ c) l)
def crc (l : List UInt8) : W := more 0#32 l

theorem bit_xor (a b : W) : bit (a ^^^ b) = bit a ^^^ bit b := by
  unfold bit
  rw [BitVec.ushiftRight_xor_distrib, BitVec.getLsbD_xor]
  cases a.getLsbD 0 <;> cases b.getLsbD 0 <;> simp only [Bool.xor_false, Bool.false_xor, Bool.true_xor, Bool.xor_true, Bool.not_true, Bool.not_false, if_true, Bool.false_eq_true, if_false, BitVec.xor_zero]
  · ac_rfl
  · ac_rfl
  · have e : a >>> 1 ^^^ poly ^^^ (b >>> 1 ^^^ poly) = (a >>> 1 ^^^ b >>> 1) ^^^ (poly ^^^ poly) := by ac_rfl
    rw [e, BitVec.xor_self, BitVec.xor_zero]
theorem bit_zero : bit 0#32 = 0#32 := by decide
theorem bits_xor (n : Nat) : ∀ a b : W, bits n (a ^^^ b) = bits n a ^^^ bits n b := by
  induction n with
  | zero => intro a b; rfl
  | succ n ih => intro a b; simp only [bits, bit_xor, ih]
theorem bits_zero (n : Nat) : bits n 0#32 = 0#32 := by
  induction n with
  | zero => rfl
  | succ n ih => simp only [bits, bit_zero, ih]
theorem bits_add (m n : Nat) : ∀ c, bits (m + n) c = bits n (bits m c) := by
  induction m with
  | zero => intro c; simp [bits]
  | succ m ih => intro c; rw [Nat.succ_add]; simp only [bits, ih]
theorem bit_ker {c : W} (h : bit c = 0#32) : c = 0#32 := by
  unfold bit at h
  cases h0 : c.getLsbD 0 with
  | true =>
    rw [h0, if_pos rfl] at h
    have h1 : (c >>> 1) = poly := by
      have := congrArg (· ^^^ poly) h
      simpa [BitVec.xor_assoc] using this
    have h2 := congrArg (fun x : W => x.getLsbD 31) h1
    simp [poly] at h2
  | false =>
    rw [h0] at h
    simp at h
    apply BitVec.eq_of_getLsbD_eq
    intro i hi
    cases i with
    | zero => rw [h0]; simp
    | succ i =>
      have h2 := congrArg (fun x : W => x.getLsbD i) h
      simp only [BitVec.getLsbD_ushiftRight] at h2
      rw [Nat.add_comm] at h2
      rw [h2]; simp
theorem bits_ker (n : Nat) : ∀ {c : W}, bits n c = 0#32 → c = 0#32 := by
  induction n with
  | zero => intro c h; exact h
  | succ n ih => intro c h; exact bit_ker (ih h)
/-- a number whose lowest bits are none: only halved -/
theorem bits_low (n : Nat) : ∀ c : W, (∀ i, i < n → c.getLsbD i = false) → bits n c = c >>> n := by
  induction n with
  | zero => intro c _; simp [bits]
  | succ n ih =>
    intro c h
    have h0 := h 0 (by omega)
    have hb : bit c = c >>> 1 := by unfold bit; rw [h0]; simp
    simp only [bits]
    rw [hb, ih]
    · rw [← BitVec.shiftRight_add, Nat.add_comm]
    · intro i hi
      rw [BitVec.getLsbD_ushiftRight]
      exact h (1 + i) (by omega)
theorem split (c : W) (n : Nat) : c = (c >>> n <<< n) ^^^ (c &&& (BitVec.ofNat 32 (2 ^ n - 1))) := by
  apply BitVec.eq_of_getLsbD_eq
  intro i hi
  simp only [BitVec.getLsbD_xor, BitVec.getLsbD_shiftLeft, BitVec.getLsbD_ushiftRight, BitVec.getLsbD_and, BitVec.getLsbD_ofNat, Nat.testBit_two_pow_sub_one]
  by_cases h : i < n
  · simp [h, hi]
  · have e : n + (i - n) = i := by omega
    simp [h, hi, e]
theorem half_eq (c : W) : half c = bits 4 c := by
  have hs := split c 4
  have h1 : bits 4 (c >>> 4 <<< 4) = c >>> 4 := by
    rw [bits_low 4 _ (by intro i hi; simp [BitVec.getLsbD_shiftLeft, hi])]
    apply BitVec.eq_of_getLsbD_eq
    intro i hi
    simp only [BitVec.getLsbD_shiftLeft, BitVec.getLsbD_ushiftRight]
    by_cases h4 : 4 + i < 32
    · have e : 4 + (4 + i - 4) = 4 + i := by omega
      simp [h4, e]
    · rw [BitVec.getLsbD_of_ge c (4 + i) (by omega)]
      simp [h4]
  have h2 : ∀ k, k < 16 → bits 4 (BitVec.ofNat 32 k) = tab k := by decide +kernel
  have h3 : (c &&& BitVec.ofNat 32 (2 ^ 4 - 1)) = BitVec.ofNat 32 (c.toNat % 16) := by
    apply BitVec.eq_of_toNat_eq
    simp only [BitVec.toNat_and, BitVec.toNat_ofNat]
    have : (2 ^ 4 - 1) % 2 ^ 32 = 15 := by decide
    rw [this, show (15 : Nat) = 2 ^ 4 - 1 from rfl, Nat.and_two_pow_sub_one_eq_mod]
    omega
  conv => rhs; rw [hs, bits_xor, h1, h3, h2 _ (Nat.mod_lt _ (by omega))]
  rfl
theorem byteS_half (c : W) (x : UInt8) : half (half (c ^^^ BitVec.ofNat 32 x.toNat)) = byteS c x := by
  rw [half_eq, half_eq, ← bits_add]; rfl

/-! ### differences -/
theorem raw_cons (c : W) (x : UInt8) (l : List UInt8) : raw c (x :: l) = raw (byteS c x) l := rfl
theorem raw_append (c : W) (a b : List UInt8) : raw c (a ++ b) = raw (raw c a) b := List.foldl_append ..
/-- fed bit by bit -/
def rawB : W → List Bool → W
  | c, [] => c
  | c, b :: r => rawB (bit (c ^^^ (if b then 1#32 else 0#32))) r
theorem rawB_append (a b : List Bool) : ∀ c, rawB c (a ++ b) = rawB (rawB c a) b := by
  induction a with
  | nil => intro c; rfl
  | cons x a ih => intro c; simp only [List.cons_append, rawB, ih]
/-- n bits of a number, the lowest first -/
def low (n : Nat) (x : Nat) : List Bool := (List.range n).map x.testBit
theorem low_succ (n x : Nat) : low (n + 1) x = x.testBit 0 :: low n (x / 2) := by
  unfold low
  rw [List.range_succ_eq_map, List.map_cons, List.map_map]
  congr 1
  refine List.map_congr_left fun i _ => ?_
  simp [Function.comp, Nat.testBit_succ]
theorem bit_low (c : W) (x : Nat) (h : x < 2 ^ 32) : bit (c ^^^ BitVec.ofNat 32 x) = bit (c ^^^ (if x.testBit 0 then 1#32 else 0#32)) ^^^ BitVec.ofNat 32 (x / 2) := by
  rw [bit_xor, bit_xor]
  have e : bit (BitVec.ofNat 32 x) = bit (if x.testBit 0 then 1#32 else 0#32) ^^^ BitVec.ofNat 32 (x / 2) := by
    have hs : (BitVec.ofNat 32 x) >>> 1 = BitVec.ofNat 32 (x / 2) := by
      apply BitVec.eq_of_toNat_eq
      simp only [BitVec.toNat_ushiftRight, BitVec.toNat_ofNat, Nat.shiftRight_eq_div_pow]
      omega
    unfold bit
    rw [hs]
    have hl : (BitVec.ofNat 32 x).getLsbD 0 = x.testBit 0 := by rw [BitVec.getLsbD_ofNat]; simp
    rw [hl]
    cases x.testBit 0
    · simp
    · have h1 : (1#32 : W) >>> 1 = 0#32 := by decide
      have h2 : (1#32 : W).getLsbD 0 = true := by decide
      simp only [if_true, h1, h2]
      rw [BitVec.zero_xor, BitVec.xor_comm]
  rw [e, BitVec.xor_assoc]
theorem bits_rawB (n : Nat) : ∀ (c : W) (x : Nat), x < 2 ^ n → n ≤ 32 → bits n (c ^^^ BitVec.ofNat 32 x) = rawB c (low n x) := by
  induction n with
  | zero =>
    intro c x h _
    have : x = 0 := by simpa using h
    subst this
    simp [bits, low, rawB]
  | succ n ih =>
    intro c x h hn
    have h32 : x < 2 ^ 32 := Nat.lt_of_lt_of_le h (Nat.pow_le_pow_right (by omega) hn)
    rw [low_succ]
    simp only [bits, rawB]
    rw [bit_low c x h32, ih _ _ (by rw [Nat.pow_succ] at h; omega) (by omega)]
def bitsOf : List UInt8 → List Bool
  | [] => []
  | x :: l => low 8 x.toNat ++ bitsOf l
theorem raw_rawB (l : List UInt8) : ∀ c, raw c l = rawB c (bitsOf l) := by
  induction l with
  | nil => intro c; rfl
  | cons x l ih =>
    intro c
    rw [raw_cons, ih]
    simp only [bitsOf, rawB_append]
    rw [← bits_rawB 8 c x.toNat x.toNat_lt (by omega)]
    rfl
theorem rawB_xor : ∀ (a b : List Bool) (c d : W), a.length = b.length → rawB c a ^^^ rawB d b = rawB (c ^^^ d) (List.zipWith xor a b)
  | [], [], c, d, _ => rfl
  | x :: a, y :: b, c, d, h => by
    simp only [rawB, List.zipWith_cons_cons]
    rw [rawB_xor a b _ _ (by simpa using h), ← bit_xor]
    congr 2
    cases x <;> cases y <;> simp only [Bool.xor_false, Bool.false_xor, Bool.xor_true, Bool.not_true, Bool.not_false, if_true, Bool.false_eq_true, if_false, BitVec.xor_zero]
    · ac_rfl
    · ac_rfl
    · have e : (c ^^^ 1#32) ^^^ (d ^^^ 1#32) = (c ^^^ d) ^^^ (1#32 ^^^ 1#32) := by ac_rfl
      rw [e, BitVec.xor_self, BitVec.xor_zero]
  | [], _ :: _, _, _, h => by simp at h
  | _ :: _, [], _, _, h => by simp at h
theorem rawB_zeros (n : Nat) : ∀ c, rawB c (List.replicate n false) = bits n c := by
  induction n with
  | zero => intro c; rfl
  | succ n ih => intro c; simp only [List.replicate_succ, rawB, bits, ih, Bool.false_eq_true, if_false, BitVec.xor_zero]
/-- the number whose bits they are -/
def num : List Bool → Nat
  | [] => 0
  | b :: r => (if b then 1 else 0) + 2 * num r
theorem num_lt (l : List Bool) : num l < 2 ^ l.length := by
  induction l with
  | nil => simp [num]
  | cons b r ih => simp only [num, List.length_cons, Nat.pow_succ]; split <;> omega
theorem low_num (l : List Bool) : low l.length (num l) = l := by
  induction l with
  | nil => rfl
  | cons b r ih =>
    rw [List.length_cons, low_succ]
    have h1 : (num (b :: r)).testBit 0 = b := by
      simp only [num, Nat.testBit_zero]
      cases b <;> simp <;> omega
    have h2 : num (b :: r) / 2 = num r := by simp only [num]; cases b <;> simp <;> omega
    rw [h1, h2, ih]
theorem num_pos (l : List Bool) (h : true ∈ l) : 0 < num l := by
  induction l with
  | nil => simp at h
  | cons b r ih =>
    simp only [num]
    cases b with
    | true => simp; omega
    | false =>
      have : true ∈ r := by simpa using h
      have := ih this
      omega
/-- a burst within 32 bits is seen -/
theorem burst_seen (w : List Bool) (m k : Nat) (hw : w.length ≤ 32) (h : true ∈ w) : rawB 0#32 (List.replicate m false ++ (w ++ List.replicate k false)) ≠ 0#32 := by
  intro he
  rw [rawB_append, rawB_zeros, bits_zero, rawB_append, rawB_zeros] at he
  have h1 := bits_ker k he
  have h2 := bits_rawB w.length 0#32 (num w) (num_lt w) hw
  rw [low_num, BitVec.zero_xor] at h2
  rw [← h2] at h1
  have h3 := bits_ker _ h1
  have h4 := congrArg BitVec.toNat h3
  have h5 := num_lt w
  have h6 : 2 ^ w.length ≤ 2 ^ 32 := Nat.pow_le_pow_right (by omega) hw
  simp only [BitVec.toNat_ofNat] at h4
  have := num_pos w h
  rw [Nat.mod_eq_of_lt (by omega)] at h4
  simp at h4
  omega
theorem bitsOf_length (l : List UInt8) : (bitsOf l).length = 8 * l.length := by
  induction l with
  | nil => rfl
  | cons x l ih => simp only [bitsOf, List.length_append, ih, List.length_cons]; simp [low]; omega
/-- two texts of one length: their sums differ as their difference's does from nothing -/
theorem crc_eq_iff (a b : List UInt8) (h : a.length = b.length) : crc a = crc b ↔ rawB 0#32 (List.zipWith xor (bitsOf a) (bitsOf b)) = 0#32 := by
  have e := rawB_xor (bitsOf a) (bitsOf b) (~~~ 0#32) (~~~ 0#32) (by rw [bitsOf_length, bitsOf_length, h])
  rw [BitVec.xor_self] at e
  rw [← e, ← raw_rawB, ← raw_rawB]
  unfold crc more
  constructor
  · intro hh
    have : raw (~~~ 0#32) a = raw (~~~ 0#32) b := by
      have := congrArg (fun x : W => ~~~ x) hh
      simpa using this
    rw [this, BitVec.xor_self]
  · intro hh
    have : raw (~~~ 0#32) a = raw (~~~ 0#32) b := by
      have := congrArg (· ^^^ raw (~~~ 0#32) b) hh
      simpa [BitVec.xor_assoc] using this
    rw [this]
/-- bit k of a text -/
def bitAt (l : List UInt8) (k : Nat) : Bool := ((l.getD (k / 8) 0).toNat).testBit (k % 8)
theorem bitsOf_get (l : List UInt8) : ∀ k, k < 8 * l.length → (bitsOf l)[k]? = some (bitAt l k) := by
  induction l with
  | nil => intro k h; simp at h
  | cons x l ih =>
    intro k h
    have hlow : (low 8 x.toNat).length = 8 := by simp [low]
    simp only [bitsOf]
    by_cases hk : k < 8
    · rw [List.getElem?_append_left (by omega)]
      have e1 : k / 8 = 0 := by omega
      have e2 : k % 8 = k := by omega
      simp [low, bitAt, e1, e2, hk]
    · rw [List.getElem?_append_right (by omega), hlow, ih (k - 8) (by simp at h; omega)]
      have e1 : k / 8 = (k - 8) / 8 + 1 := by omega
      have e2 : (k - 8) % 8 = k % 8 := by omega
      unfold bitAt
      rw [e1, List.getD_cons_succ, e2]
/-- texts that differ just at the bits 'from + j', j among those of a number of 32 bits -/
theorem crc_burst (a b : List UInt8) (h : a.length = b.length) (fr t : Nat)
    (hd : ∀ k, k < 8 * a.length → bitAt b k = xor (bitAt a k) (decide (fr ≤ k) && decide (k < fr + 32) && t.testBit (k - fr))) :
    crc a = crc b ↔ ∀ j, j < 32 → t.testBit j = true → 8 * a.length ≤ fr + j := by
  rw [crc_eq_iff a b h]
  let n := 8 * a.length
  let f : Nat → Bool := fun k => decide (fr ≤ k) && decide (k < fr + 32) && t.testBit (k - fr)
  have hz : List.zipWith xor (bitsOf a) (bitsOf b) = (List.range n).map f := by
    apply List.ext_getElem?
    intro k
    rw [List.getElem?_zipWith]
    by_cases hk : k < n
    · rw [bitsOf_get a k hk, bitsOf_get b k (by rw [← h]; exact hk), hd k hk]
      simp [hk, f]
    · have e1 : (bitsOf a)[k]? = none := List.getElem?_eq_none (by rw [bitsOf_length]; omega)
      rw [e1]
      simp [hk]
  rw [hz]
  constructor
  · intro hr j hj ht
    apply Classical.byContradiction
    intro hlt
    have hlt' : fr + j < n := by omega
    -- cut in three
    let m := min (fr + 32) n
    have e : (List.range n).map f = List.replicate fr false ++ (((List.range (m - fr)).map fun i => f (fr + i)) ++ List.replicate (n - m) false) := by
      apply List.ext_getElem?
      intro k
      by_cases hk1 : k < fr
      · rw [List.getElem?_append_left (by simpa using hk1)]
        have : k < n := by omega
        simp [this, hk1, f]; omega
      · rw [List.getElem?_append_right (by simpa using hk1)]
        simp only [List.length_replicate]
        by_cases hk2 : k < m
        · rw [List.getElem?_append_left (by simp; omega)]
          have h1 : k < n := by omega
          have h2 : k - fr < m - fr := by omega
          have h3 : fr + (k - fr) = k := by omega
          simp [h1, h2, h3]
        · rw [List.getElem?_append_right (by simp; omega)]
          simp only [List.length_map, List.length_range]
          by_cases hk3 : k < n
          · have h2 : k - fr - (m - fr) < n - m := by omega
            have h4 : ¬ k < fr + 32 := by omega
            simp [hk3, h2, f, h4]
          · have h2 : ¬ k - fr - (m - fr) < n - m := by omega
            simp [hk3, h2]
    rw [e] at hr
    refine burst_seen _ _ _ (by simp; omega) ?_ hr
    rw [List.mem_map]
    refine ⟨j, by simp; omega, ?_⟩
    simp [f, hj, ht]
  · intro hn
    have e : (List.range n).map f = List.replicate n false := by
      apply List.ext_getElem?
      intro k
      by_cases hk : k < n
      · have : f k = false := by
          cases hf : f k with
          | false => rfl
          | true =>
            simp only [f, Bool.and_eq_true, decide_eq_true_eq] at hf
            have := hn (k - fr) (by omega) hf.2
            omega
        simp [hk, this]
      · simp [hk]
    rw [e, rawB_zeros, bits_zero]
end Crc
end Go.Proofs.YtjjileokdikcmaaDoor
