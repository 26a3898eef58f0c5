/- PLAIN: what entry's reader makes of bytes; entries' bytes are read as them. No statement of the seat is proved here; no condition. -/
import Derived.Test.YtbcnekaagkdmeaaDoorEnXW
namespace Go.Proofs.YtbcnekaagkdmeaaDoor
open Go.RowKit

namespace Var
theorem val_put (n : Nat) : val (put n) = n := by
  induction n using Nat.strongRecOn with
  | _ n ih =>
    by_cases h : n < 128
    · rw [put_lt h]; simp only [val]; rw [toNat_ofNat_lt (by omega)]; omega
    · rw [put_ge (by omega)]; simp only [val]; rw [toNat_ofNat_lt (by omega), ih _ (by omega)]; omega
theorem lead_put (n : Nat) : ∀ rest, lead (put n ++ rest) = (put n).length - 1 := by
  induction n using Nat.strongRecOn with
  | _ n ih =>
    intro rest
    by_cases h : n < 128
    · rw [put_lt h]
      simp only [List.cons_append, List.nil_append, lead]
      rw [if_pos (by rw [toNat_ofNat_lt (by omega)]; exact h)]
      simp
    · rw [put_ge (by omega)]
      simp only [List.cons_append, lead]
      rw [if_neg (by rw [toNat_ofNat_lt (by omega)]; omega), ih _ (by omega)]
      have := put_pos (n / 128)
      simp; omega

/-- the last byte of a number -/
theorem put_last (n : Nat) : ∀ rest, ((put n ++ rest).getD ((put n).length - 1) 0).toNat = 0 → n = 0 := by
  induction n using Nat.strongRecOn with
  | _ n ih =>
    intro rest
    by_cases h : n < 128
    · rw [put_lt h]
      simp only [List.cons_append, List.nil_append, List.length_cons, List.length_nil, Nat.zero_add, Nat.sub_self, List.getD_cons_zero]
      rw [toNat_ofNat_lt (by omega)]
      exact id
    · rw [put_ge (by omega)]
      have hp := put_pos (n / 128)
      intro hz
      have : (UInt8.ofNat (n % 128 + 128) :: put (n / 128)).length - 1 = ((put (n / 128)).length - 1) + 1 := by simp; omega
      rw [this, List.cons_append, List.getD_cons_succ] at hz
      have := ih (n / 128) (by omega) rest hz
      omega
/-- the tenth byte is 0 or 1 -/
theorem put_tenth (k : Nat) : ∀ (n : Nat) (rest : List UInt8), n < 2 * 128 ^ k → (put n).length = k + 1 → ((put n ++ rest).getD ((put n).length - 1) 0).toNat ≤ 1 := by
  induction k with
  | zero =>
    intro n rest h hl
    have h2 : n < 2 := by simpa using h
    rw [put_lt (by omega)]
    simp only [List.cons_append, List.nil_append, List.length_cons, List.length_nil, Nat.zero_add, Nat.sub_self, List.getD_cons_zero]
    rw [toNat_ofNat_lt (by omega)]
    omega
  | succ k ih =>
    intro n rest h hl
    by_cases h1 : n < 128
    · rw [put_lt h1] at hl; simp at hl
    · rw [put_ge (by omega)] at hl ⊢
      have hl' : (put (n / 128)).length = k + 1 := by simpa using hl
      have : (UInt8.ofNat (n % 128 + 128) :: put (n / 128)).length - 1 = ((put (n / 128)).length - 1) + 1 := by simp; omega
      rw [this, List.cons_append, List.getD_cons_succ]
      exact ih (n / 128) rest (by rw [Nat.div_lt_iff_lt_mul (by omega)]; rw [Nat.pow_succ] at h; omega) hl'

theorem get_put {n : Nat} (h : n < 18446744073709551616) (rest : List UInt8) : get (put n ++ rest) = (n, (put n).length, 0) := by
  have hp := put_pos n
  have hle := put_le10 h
  have hl := lead_put n rest
  rw [get_eq, hl]
  rw [if_neg (by omega), if_neg (by simp; omega)]
  have hcond : ¬ (((put n).length - 1 = 9 ∧ 1 < ((put n ++ rest).getD ((put n).length - 1) 0).toNat) ∨ (((put n ++ rest).getD ((put n).length - 1) 0).toNat = 0 ∧ 0 < (put n).length - 1)) := by
    rintro (⟨h9, h1⟩ | ⟨h0, h1⟩)
    · have := put_tenth 9 n rest (by omega) (by omega)
      omega
    · have := put_last n rest h0
      subst this
      simp [put_lt] at h1
  rw [if_neg hcond]
  have e : (put n).length - 1 + 1 = (put n).length := by omega
  rw [e, List.take_left, val_put]

end Var
theorem unzig_zig (n : Int) : unzig (zig n) = n := by
  unfold unzig zig; split <;> split <;> omega
theorem mnum_put {n : Nat} (h : n < 18446744073709551616) (rest : List UInt8) : mnum (Var.put n ++ rest) false = (n, rest, false) := by
  have hg := Var.get_put h rest
  rw [mnum_ok (by rw [hg]; simp), hg]
  simp
theorem mtext_tx {s : ByteArray} (h : s.size ≤ 64) (rest : List UInt8) : mtext (tx s ++ rest) false = (s, rest, false) := by
  have e : tx s ++ rest = Var.put s.size ++ (s.data.toList ++ rest) := by unfold tx; rw [List.append_assoc]
  have hm := mnum_put (n := s.size) (by omega) (s.data.toList ++ rest)
  have hs : s.data.toList.length = s.size := by rw [Array.length_toList]; rfl
  unfold mtext
  rw [e, hm, if_neg (by simp only [List.length_append, hs]; simp)]
  simp only []
  rw [← hs, List.take_left, List.drop_left]
theorem mnum_lt (l : List UInt8) (bad : Bool) : (mnum l bad).1 < 18446744073709551616 := by
  unfold mnum
  split
  · exact (by decide : 0 < 18446744073709551616)
  · exact Var.get_lt l
theorem mnum_len (l : List UInt8) (bad : Bool) : (mnum l bad).2.1.length ≤ l.length := by
  unfold mnum
  split
  · exact Nat.le_refl _
  · simp
theorem mtext_len (l : List UInt8) (bad : Bool) : (mtext l bad).2.1.length ≤ l.length := by
  have := mnum_len l bad
  unfold mtext
  split
  · exact this
  · simp only [List.length_drop]; omega
/-! ### the reader -/
/-- a small number -/
def rsm (most : Nat) (l : List UInt8) (bad : Bool) : MNum := if most < (mnum l bad).1 then (0, (mnum l bad).2.1, true) else mnum l bad
theorem rsm_le (most : Nat) (l : List UInt8) (bad : Bool) : (rsm most l bad).1 ≤ most := by
  unfold rsm
  split
  · exact Nat.zero_le _
  · omega
theorem rsm_len (most : Nat) (l : List UInt8) (bad : Bool) : (rsm most l bad).2.1.length ≤ l.length := by
  have := mnum_len l bad
  unfold rsm
  split <;> exact this
theorem rsm_put {most n : Nat} (h : n ≤ most) (hm : most < 18446744073709551616) (rest : List UInt8) : rsm most (Var.put n ++ rest) false = (n, rest, false) := by
  unfold rsm
  rw [mnum_put (by omega), if_neg (by show ¬ most < n; omega)]
def ceZ : Ce := ⟨0, 0, ByteArray.empty⟩
abbrev MCe := Ce × List UInt8 × Bool
def rcell (k : UInt8) (l : List UInt8) (bad : Bool) : MCe :=
  if k.toNat = 1 then (if (Var.get l).2.2 ≠ 0 ∨ bad = true then (ceZ, l, true) else (⟨1, Int64.ofInt (unzig (Var.get l).1), ByteArray.empty⟩, l.drop (Var.get l).2.1, false))
  else if k.toNat = 2 then (⟨k, Int64.ofNat (rsm 1 l bad).1, ByteArray.empty⟩, (rsm 1 l bad).2)
  else (⟨k, 0, (mtext l bad).1⟩, (mtext l bad).2)
abbrev MSt := St × List UInt8 × Bool
def stat3 (rows : Int64) (a : Nat) (h : Bool) (k : UInt8) (l : List UInt8) (bad : Bool) : MSt :=
  if h = true then (⟨rows, Int64.ofNat a, true, true, (rcell k l bad).1, (rcell k (rcell k l bad).2.1 (rcell k l bad).2.2).1⟩, (rcell k (rcell k l bad).2.1 (rcell k l bad).2.2).2)
  else (⟨rows, Int64.ofNat a, true, false, (rcell k l bad).1, ceZ⟩, (rcell k l bad).2)
def stat2 (rows : Int64) (a f : Nat) (l : List UInt8) (bad : Bool) : MSt :=
  if f = 0 then (⟨rows, Int64.ofNat a, false, false, ceZ, ceZ⟩, l, bad)
  else stat3 rows a (decide (f = 3)) (UInt8.ofNat (rsm 3 l bad).1) (rsm 3 l bad).2.1 (rsm 3 l bad).2.2
def rstat (rows : Int64) (l : List UInt8) (bad : Bool) : MSt :=
  stat2 rows (rsm 256 l bad).1 (rsm 3 (rsm 256 l bad).2.1 (rsm 256 l bad).2.2).1 (rsm 3 (rsm 256 l bad).2.1 (rsm 256 l bad).2.2).2.1 (rsm 3 (rsm 256 l bad).2.1 (rsm 256 l bad).2.2).2.2
def rstats (rows : Int64) : Nat → List UInt8 → Bool → List St → List St × List UInt8 × Bool
  | 0, l, bad, acc => (acc, l, bad)
  | n + 1, l, bad, acc => if bad = true then (acc, l, true) else rstats rows n (rstat rows l false).2.1 (rstat rows l false).2.2 (acc ++ [(rstat rows l false).1])
/-- an entry's head: name, keys, seq, rows, schema, how many statistics -/
structure Hd where
  name : ByteArray
  keys : Bool
  seq : UInt64
  rows : Int64
  sch : UInt32
  n : Nat
def rhead (l : List UInt8) (bad : Bool) : Hd × List UInt8 × Bool :=
  let a := mtext l bad
  let b := rsm 1 a.2.1 a.2.2
  let c := mnum b.2.1 b.2.2
  let d := rsm 256 c.2.1 c.2.2
  let f := rsm 4294967295 d.2.1 d.2.2
  let g := rsm 8 f.2.1 f.2.2
  (⟨a.1, decide (b.1 = 1), UInt64.ofNat c.1, Int64.ofNat d.1, UInt32.ofNat f.1, g.1⟩, g.2)
abbrev MEn := En × List UInt8 × Bool
def rentry (l : List UInt8) (bad : Bool) : MEn :=
  let h := rhead l bad
  let s := rstats h.1.rows h.1.n h.2.1 h.2.2 []
  (⟨h.1.name, h.1.keys, h.1.seq, h.1.rows, h.1.sch, s.1⟩, s.2)
def rents : Nat → List UInt8 → Bool → List En → List En × List UInt8 × Bool
  | 0, l, bad, acc => (acc, l, bad)
  | n + 1, l, bad, acc => if bad = true then (acc, l, true) else rents n (rentry l false).2.1 (rentry l false).2.2 (acc ++ [(rentry l false).1])
theorem rstats_end {rows : Int64} {n : Nat} {l : List UInt8} {bad : Bool} {acc : List St} (h : n = 0 ∨ bad = true) : rstats rows n l bad acc = (acc, l, bad) := by
  cases n with
  | zero => rfl
  | succ n =>
    have hb : bad = true := by simpa using h
    rw [rstats, if_pos hb, hb]
theorem rstats_on (rows : Int64) (n : Nat) (l : List UInt8) (acc : List St) : rstats rows (n + 1) l false acc = rstats rows n (rstat rows l false).2.1 (rstat rows l false).2.2 (acc ++ [(rstat rows l false).1]) := by
  rw [rstats, if_neg (by simp)]
theorem rents_end {n : Nat} {l : List UInt8} {bad : Bool} {acc : List En} (h : n = 0 ∨ bad = true) : rents n l bad acc = (acc, l, bad) := by
  cases n with
  | zero => rfl
  | succ n =>
    have hb : bad = true := by simpa using h
    rw [rents, if_pos hb, hb]
theorem rents_on (n : Nat) (l : List UInt8) (acc : List En) : rents (n + 1) l false acc = rents n (rentry l false).2.1 (rentry l false).2.2 (acc ++ [(rentry l false).1]) := by
  rw [rents, if_neg (by simp)]
/-! ### what is written is read -/
theorem bytes_none {s : ByteArray} (h : s.size = 0) : s = ByteArray.empty := by
  apply bytes_same
  rw [ByteArray.toList_eq, ByteArray.toList_eq]
  have e : s.data.toList.length = 0 := by rw [Array.length_toList]; exact h
  rw [List.eq_nil_of_length_eq_zero e]
  rfl
theorem ce_ext {a b : Ce} (h1 : a.kind.toNat = b.kind.toNat) (h2 : a.n.toInt = b.n.toInt) (h3 : a.s = b.s) : a = b := by
  cases a; cases b
  simp only [Ce.mk.injEq]
  exact ⟨UInt8.toNat_inj.1 h1, Int64.toInt_inj.1 h2, h3⟩
theorem isZ_ceZ {c : Ce} (h : isZ c = true) : c = ceZ := by
  unfold isZ at h
  simp only [Bool.and_eq_true, decide_eq_true_eq] at h
  exact ce_ext h.1 (by rw [h.2.1]; rfl) (bytes_none h.2.2)
theorem i64_small {n : Nat} (h : n ≤ 4294967296) : (Int64.ofNat n).toInt = (n : Int) := by
  rw [Int64.toInt_ofNat_of_lt (by omega)]
theorem rcell_cellB {c : Ce} (h : bndOk c = true) (rest : List UInt8) : rcell c.kind (cellB c ++ rest) false = (c, rest, false) := by
  obtain ⟨h1, h2, h3, h4, h5, h6⟩ := bnd_has h
  unfold rcell cellB
  by_cases k1 : c.kind.toNat = 1
  · rw [if_pos k1, if_pos k1]
    have hg := Var.get_put (zig_lt (Int64.le_toInt c.n) (by have := Int64.toInt_lt c.n; omega)) rest
    rw [if_neg (by rw [hg]; simp), hg]
    simp only [unzig_zig, List.drop_left]
    congr 1
    exact ce_ext (by rw [k1]; rfl) (by rw [Int64.ofInt_toInt]) (bytes_none (h4 (by omega))).symm
  · rw [if_neg k1, if_neg k1]
    by_cases k2 : c.kind.toNat = 2
    · rw [if_pos k2, if_pos k2]
      have hn := h6 k2
      rw [rsm_put (by rcases hn with q | q <;> rw [q] <;> decide) (by decide)]
      simp only []
      congr 1
      exact ce_ext rfl (by rcases hn with q | q <;> rw [q] <;> rfl) (bytes_none (h4 (by omega))).symm
    · rw [if_neg k2, if_neg k2, mtext_tx h3]
      simp only []
      congr 1
      exact ce_ext rfl (by rw [h5 (by omega)]; rfl) rfl
theorem ofNat8 (a : UInt8) : UInt8.ofNat a.toNat = a := UInt8.toNat_inj.1 (by rw [UInt8.toNat_ofNat']; have := a.toNat_lt; omega)
theorem ofNatInt {a : Int64} (h : 0 ≤ a.toInt) : Int64.ofNat a.toInt.toNat = a := Int64.toInt_inj.1 (by
  have := Int64.toInt_lt a
  rw [Int64.toInt_ofNat_of_lt (by omega)]
  omega)
theorem rstat_statB {s : St} (h : statOk s = true) {rows : Int64} (hr : s.rows.toInt = rows.toInt) (rest : List UInt8) : rstat rows (statB s ++ rest) false = (s, rest, false) := by
  obtain ⟨h1, h2, h3, h4⟩ := stat_has h
  obtain rfl : s.rows = rows := Int64.toInt_inj.1 hr
  unfold statOk at h
  simp only [Bool.and_eq_true, decide_eq_true_eq] at h
  obtain ⟨_, _, _, h5⟩ := h
  unfold rstat statB
  cases s with
  | mk rw nu sm hi mn mx =>
  dsimp only at *
  have e0 : Int64.ofNat nu.toInt.toNat = nu := ofNatInt h1
  cases sm with
  | false =>
    simp only [if_true, List.append_assoc, Bool.false_eq_true, if_false, Bool.and_eq_true, Bool.not_eq_true', decide_eq_true_eq] at h5 ⊢
    rw [rsm_put (by omega) (by decide)]
    simp only []
    rw [rsm_put (by omega) (by decide)]
    simp only [stat2, if_true]
    rw [e0, h5.2.1, isZ_ceZ h5.2.2.1, isZ_ceZ h5.2.2.2]
  | true =>
    obtain ⟨b1, b2⟩ := h4 rfl
    have kk := (bnd_has b1).1
    cases hi with
    | true =>
      obtain ⟨b3, b4⟩ := b2 rfl
      have b5 : mn.kind = mx.kind := UInt8.toNat_inj.1 b4
      simp only [Bool.true_eq_false, if_false, if_true, List.append_assoc]
      rw [rsm_put (by omega) (by decide)]
      simp only []
      rw [rsm_put (by omega) (by decide)]
      simp only [stat2, if_neg (show ¬ (3 : Nat) = 0 by decide), stat3, decide_true, if_true]
      rw [rsm_put (by omega) (by decide)]
      simp only [ofNat8]
      rw [rcell_cellB b1]
      simp only []
      rw [b5, rcell_cellB b3, e0]
    | false =>
      have h6 := h5
      simp only [if_true, Bool.false_eq_true, if_false, Bool.and_eq_true, decide_eq_true_eq] at h6
      simp only [Bool.true_eq_false, Bool.false_eq_true, if_false, List.append_assoc]
      rw [rsm_put (by omega) (by decide)]
      simp only []
      rw [rsm_put (by omega) (by decide)]
      simp only [stat2, if_neg (show ¬ (1 : Nat) = 0 by decide), stat3, show decide ((1 : Nat) = 3) = false from rfl, Bool.false_eq_true, if_false]
      rw [rsm_put (by omega) (by decide)]
      simp only [ofNat8]
      rw [rcell_cellB b1]
      simp only []
      rw [e0, isZ_ceZ h6.2.2]
theorem rstats_statsB {rows : Int64} : ∀ (l acc : List St) (rest : List UInt8), (∀ s ∈ l, s.rows.toInt = rows.toInt ∧ statOk s = true) → rstats rows l.length (statsB l ++ rest) false acc = (acc ++ l, rest, false)
  | [], acc, rest, _ => by simp [statsB, rstats]
  | s :: l, acc, rest, h => by
    have e : statsB (s :: l) ++ rest = statB s ++ (statsB l ++ rest) := by simp [statsB]
    have hs := h s (by simp)
    rw [e, List.length_cons, rstats_on, rstat_statB hs.2 hs.1]
    simp only []
    rw [rstats_statsB l _ rest (fun x hx => h x (by simp [hx]))]
    simp
theorem rentry_entB {x : En} (h : rightE x = true) (rest : List UInt8) : rentry (entB x ++ rest) false = (x, rest, false) := by
  obtain ⟨h1, h2, h3, h4, h5, h6, h7⟩ := right_hasE h
  have hp := path_le h1
  have n1 := x.seq.toNat_lt
  have n2 := x.sch.toNat_lt
  have e : entB x ++ rest = tx x.name ++ (Var.put (flagN x.keys) ++ (Var.put x.seq.toNat ++ (Var.put x.rows.toInt.toNat ++ (Var.put x.sch.toNat ++ (Var.put x.stats.length ++ (statsB x.stats ++ rest)))))) := by unfold entB; simp only [List.append_assoc]
  have hh : rhead (entB x ++ rest) false = (⟨x.name, x.keys, x.seq, x.rows, x.sch, x.stats.length⟩, statsB x.stats ++ rest, false) := by
    unfold rhead
    rw [e, mtext_tx (by omega)]
    simp only []
    rw [rsm_put (by unfold flagN; split <;> omega) (by decide)]
    simp only []
    rw [mnum_put (by omega)]
    simp only []
    rw [rsm_put (by omega) (by decide)]
    simp only []
    rw [rsm_put (by omega) (by decide)]
    simp only []
    rw [rsm_put (by omega) (by decide)]
    simp only []
    have ek : decide (flagN x.keys = 1) = x.keys := by unfold flagN; cases x.keys <;> rfl
    have es : UInt64.ofNat x.seq.toNat = x.seq := UInt64.ofNat_toNat
    have ec : UInt32.ofNat x.sch.toNat = x.sch := UInt32.ofNat_toNat
    rw [ek, es, ec, ofNatInt h3]
  unfold rentry
  rw [hh]
  simp only []
  rw [rstats_statsB _ _ _ h7]
  simp
theorem rents_entsB : ∀ (l acc : List En) (rest : List UInt8), (∀ x ∈ l, rightE x = true) → rents l.length (entsB l ++ rest) false acc = (acc ++ l, rest, false)
  | [], acc, rest, _ => by simp [entsB, rents]
  | x :: l, acc, rest, h => by
    have e : entsB (x :: l) ++ rest = entB x ++ (entsB l ++ rest) := by simp [entsB]
    rw [e, List.length_cons, rents_on, rentry_entB (h x (by simp))]
    simp only []
    rw [rents_entsB l _ rest (fun y hy => h y (by simp [hy]))]
    simp
/-! ### Open -/
def ents (t : List UInt8) : List En × List UInt8 × Bool := rents (rsm 64 (t.drop 3) false).1 (rsm 64 (t.drop 3) false).2.1 (rsm 64 (t.drop 3) false).2.2 []
/-- what opening ends with: the error, the entries -/
def opE (b : List UInt8) : Nat × List En :=
  match open_ b with
  | none => (101, [])
  | some t => if t.length < 3 ∨ t.take 3 ≠ mf1 then (100, []) else if (ents t).2.2 = true then (102, []) else if errE (ents t).1 = 0 ∧ wrES (ents t).1 = b then (0, (ents t).1) else (102, [])
theorem opE_none {b : List UInt8} (h : open_ b = none) : opE b = (101, []) := by unfold opE; rw [h]
theorem opE_magic {b t : List UInt8} (h : open_ b = some t) (h2 : t.length < 3 ∨ t.take 3 ≠ mf1) : opE b = (100, []) := by unfold opE; rw [h]; exact if_pos h2
theorem opE_bad {b t : List UInt8} (h : open_ b = some t) (h2 : ¬ (t.length < 3 ∨ t.take 3 ≠ mf1)) (h3 : (ents t).2.2 = true) : opE b = (102, []) := by unfold opE; rw [h]; exact (if_neg h2).trans (if_pos h3)
theorem opE_other {b t : List UInt8} (h : open_ b = some t) (h2 : ¬ (t.length < 3 ∨ t.take 3 ≠ mf1)) (h3 : ¬ (ents t).2.2 = true) (h4 : ¬ (errE (ents t).1 = 0 ∧ wrES (ents t).1 = b)) : opE b = (102, []) := by unfold opE; rw [h]; exact (if_neg h2).trans ((if_neg h3).trans (if_neg h4))
theorem opE_good {b t : List UInt8} (h : open_ b = some t) (h2 : ¬ (t.length < 3 ∨ t.take 3 ≠ mf1)) (h3 : ¬ (ents t).2.2 = true) (h4 : errE (ents t).1 = 0 ∧ wrES (ents t).1 = b) : opE b = (0, (ents t).1) := by unfold opE; rw [h]; exact (if_neg h2).trans ((if_neg h3).trans (if_pos h4))
theorem ents_wrE {l : List En} (h : errE l = 0) : ents (wrE l) = (l, [], false) := by
  unfold errE at h
  split at h
  · cases h
  split at h
  · rename_i h64 hal
    have hall := allE_has hal
    unfold ents wrE
    have e : (mf1 ++ Var.put l.length ++ entsB l).drop 3 = Var.put l.length ++ entsB l := by rw [List.append_assoc]; rfl
    rw [e, rsm_put (by omega) (by decide)]
    have := rents_entsB l [] [] hall
    rw [List.append_nil] at this
    exact this
  · cases h
end Go.Proofs.YtbcnekaagkdmeaaDoor
