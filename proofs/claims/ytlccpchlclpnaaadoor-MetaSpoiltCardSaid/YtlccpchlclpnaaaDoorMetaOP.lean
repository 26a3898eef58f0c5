/- PLAIN: what meta's reader makes of bytes; a table's bytes are read as it. No statement of the seat is proved here; no condition. -/
import Derived.Test.YtlccpchlclpnaaaDoorMetaWP
import Derived.Test.YtlccpchlclpnaaaDoorMetaRd
namespace Go.Proofs.YtlccpchlclpnaaaDoor
open Go.RowKit

/-! ### numbers are small -/
namespace Var
theorem val_lead : ∀ l : List UInt8, lead l < l.length → val (l.take (lead l + 1)) < ((l.getD (lead l) 0).toNat + 1) * 128 ^ lead l
  | [], h => by simp [lead] at h
  | c :: r, h => by
    simp only [lead] at h ⊢
    by_cases hc : c.toNat < 128
    · simp only [if_pos hc]
      simp only [Nat.zero_add, List.take_succ_cons, List.take_zero, val, List.getD_cons_zero, Nat.pow_zero]
      omega
    · simp only [if_neg hc] at h ⊢
      have ih := val_lead r (by simpa using h)
      have hg : (c :: r).getD (lead r + 1) 0 = r.getD (lead r) 0 := by simp
      have ev : val ((c :: r).take (lead r + 1 + 1)) = c.toNat % 128 + 128 * val (r.take (lead r + 1)) := by simp [val]
      rw [ev, hg, Nat.pow_succ, ← Nat.mul_assoc]
      generalize ((r.getD (lead r) 0).toNat + 1) * 128 ^ lead r = X at *
      omega
theorem get_lt (l : List UInt8) : (get l).1 < 18446744073709551616 := by
  rw [get_eq]
  have hle := lead_le l
  split
  · decide
  split
  · decide
  split
  · decide
  · rename_i h1 h2 h3
    have hv := val_lead l (by omega)
    show val (l.take (lead l + 1)) < _
    by_cases h9 : lead l = 9
    · have hb : (l.getD (lead l) 0).toNat ≤ 1 := by
        apply Nat.le_of_not_lt
        intro q
        exact h3 (.inl ⟨h9, q⟩)
      rw [h9] at hv hb ⊢
      have : ((l.getD 9 0).toNat + 1) * 128 ^ 9 ≤ 2 * 128 ^ 9 := Nat.mul_le_mul_right _ (by omega)
      have e : 2 * 128 ^ 9 = 18446744073709551616 := by decide
      omega
    · have hb := (l.getD (lead l) 0).toNat_lt
      have hp : 128 ^ lead l ≤ 128 ^ 8 := Nat.pow_le_pow_right (by decide) (by omega)
      have : ((l.getD (lead l) 0).toNat + 1) * 128 ^ lead l ≤ 256 * 128 ^ 8 := Nat.mul_le_mul (by omega) hp
      have e : 256 * 128 ^ 8 = 18446744073709551616 := by decide
      omega
end Var
theorem mnum_lt (l : List UInt8) (bad : Bool) : (mnum l bad).1 < 18446744073709551616 := by
  unfold mnum
  split
  · exact (by decide : 0 < 18446744073709551616)
  · exact Var.get_lt l
theorem mnum_len (l : List UInt8) (bad : Bool) : (mnum l bad).2.1.length ≤ l.length := by
  unfold mnum
  split
  · exact Nat.le_refl _
  · simp
theorem mtext_len (l : List UInt8) (bad : Bool) : (mtext l bad).2.1.length ≤ l.length := by
  have := mnum_len l bad
  unfold mtext
  split
  · exact this
  · simp only [List.length_drop]; omega
theorem mtexts_end {n : Nat} {l : List UInt8} {bad : Bool} {acc : List ByteArray} (h : n = 0 ∨ bad = true) : mtexts n l bad acc = (acc, l, bad) := by
  cases n with
  | zero => rfl
  | succ n =>
    have hb : bad = true := by simpa using h
    rw [mtexts, if_pos hb, hb]
theorem mtexts_on (n : Nat) (l : List UInt8) (acc : List ByteArray) : mtexts (n + 1) l false acc = mtexts n (mtext l false).2.1 ((mtext l false).2.2 || decide (8 < acc.length + 1)) (acc ++ [(mtext l false).1]) := by
  rw [mtexts, if_neg (by simp)]
theorem mtexts_len : ∀ n l bad acc, (mtexts n l bad acc).2.1.length ≤ l.length
  | 0, l, bad, acc => Nat.le_refl _
  | n + 1, l, bad, acc => by
    rw [mtexts]
    split
    · exact Nat.le_refl _
    · exact Nat.le_trans (mtexts_len n _ _ _) (mtext_len l false)
/-! ### a snapshot -/
def mk7 (n1 n2 n3 n4 n5 n6 : Nat) (ms : List ByteArray) : Sn := ⟨UInt64.ofNat n1, UInt64.ofNat n2, UInt64.ofNat n3, UInt64.ofNat n4, UInt64.ofNat n5, UInt32.ofNat n6, ms⟩
abbrev MSn := Sn × List UInt8 × Bool
def msnap (l : List UInt8) (bad : Bool) : MSn :=
  let a := mnum l bad
  let b := mnum a.2.1 a.2.2
  let c := mnum b.2.1 b.2.2
  let d := mnum c.2.1 c.2.2
  let e := mnum d.2.1 d.2.2
  let f := mnum e.2.1 e.2.2
  let g := mnum f.2.1 (f.2.2 || decide (4294967295 < f.1))
  let t := mtexts g.1 g.2.1 g.2.2 []
  (mk7 a.1 b.1 c.1 d.1 e.1 f.1 t.1, t.2.1, t.2.2)
theorem msnap_of {l l1 l2 l3 l4 l5 l6 l7 l8 : List UInt8} {bad b1 b2 b3 b4 b5 b6 b7 b8 : Bool} {n1 n2 n3 n4 n5 n6 n7 : Nat} {ms : List ByteArray} (h1 : mnum l bad = (n1, l1, b1)) (h2 : mnum l1 b1 = (n2, l2, b2)) (h3 : mnum l2 b2 = (n3, l3, b3)) (h4 : mnum l3 b3 = (n4, l4, b4)) (h5 : mnum l4 b4 = (n5, l5, b5)) (h6 : mnum l5 b5 = (n6, l6, b6)) (h7 : mnum l6 (b6 || decide (4294967295 < n6)) = (n7, l7, b7)) (h8 : mtexts n7 l7 b7 [] = (ms, l8, b8)) :
    msnap l bad = (mk7 n1 n2 n3 n4 n5 n6 ms, l8, b8) := by
  unfold msnap
  simp only [h1, h2, h3, h4, h5, h6, h7, h8]
theorem msnap_len (l : List UInt8) (bad : Bool) : (msnap l bad).2.1.length ≤ l.length := by
  unfold msnap
  simp only []
  exact Nat.le_trans (mtexts_len _ _ _ _) (Nat.le_trans (mnum_len _ _) (Nat.le_trans (mnum_len _ _) (Nat.le_trans (mnum_len _ _) (Nat.le_trans (mnum_len _ _) (Nat.le_trans (mnum_len _ _) (Nat.le_trans (mnum_len _ _) (mnum_len _ _)))))))
/-! ### lists of schemas, of snapshots -/
def oS : Nat → List UInt8 → Bool → List Ps → List Ps × List UInt8 × Bool
  | 0, l, bad, acc => (acc, l, bad)
  | n + 1, l, bad, acc => if bad = true then (acc, l, true) else oS n (uLeft l) (decide ((rdS l 0).err ≠ 0) || decide (16 < acc.length + 1)) (acc ++ [(uId l, uFs l)])
theorem oS_end {n : Nat} {l : List UInt8} {bad : Bool} {acc : List Ps} (h : n = 0 ∨ bad = true) : oS n l bad acc = (acc, l, bad) := by
  cases n with
  | zero => rfl
  | succ n =>
    have hb : bad = true := by simpa using h
    rw [oS, if_pos hb, hb]
theorem oS_on (n : Nat) (l : List UInt8) (acc : List Ps) : oS (n + 1) l false acc = oS n (uLeft l) (decide ((rdS l 0).err ≠ 0) || decide (16 < acc.length + 1)) (acc ++ [(uId l, uFs l)]) := by
  rw [oS, if_neg (by simp)]
def oN : Nat → List UInt8 → Bool → List Sn → List Sn × List UInt8 × Bool
  | 0, l, bad, acc => (acc, l, bad)
  | n + 1, l, bad, acc => if bad = true then (acc, l, true) else oN n (msnap l false).2.1 ((msnap l false).2.2 || decide (32 < acc.length + 1)) (acc ++ [(msnap l false).1])
theorem oN_end {n : Nat} {l : List UInt8} {bad : Bool} {acc : List Sn} (h : n = 0 ∨ bad = true) : oN n l bad acc = (acc, l, bad) := by
  cases n with
  | zero => rfl
  | succ n =>
    have hb : bad = true := by simpa using h
    rw [oN, if_pos hb, hb]
theorem oN_on (n : Nat) (l : List UInt8) (acc : List Sn) : oN (n + 1) l false acc = oN n (msnap l false).2.1 ((msnap l false).2.2 || decide (32 < acc.length + 1)) (acc ++ [(msnap l false).1]) := by
  rw [oN, if_neg (by simp)]
abbrev MOp := List Ps × List Sn × Bool
def opn (l : List UInt8) : MOp :=
  let a := mnum l false
  let s := oS a.1 a.2.1 a.2.2 []
  let b := mnum s.2.1 s.2.2
  let n := oN b.1 b.2.1 b.2.2 []
  (s.1, n.1, n.2.2)
theorem opn_of {l l1 l2 l3 l4 : List UInt8} {b1 b2 b3 b4 : Bool} {n m : Nat} {ss : List Ps} {ns : List Sn} (h1 : mnum l false = (n, l1, b1)) (h2 : oS n l1 b1 [] = (ss, l2, b2)) (h3 : mnum l2 b2 = (m, l3, b3)) (h4 : oN m l3 b3 [] = (ns, l4, b4)) : opn l = (ss, ns, b4) := by
  unfold opn
  simp only [h1, h2, h3, h4]
def curOf (ns : List Sn) : Nat := (wasN ns ns.length).id.toNat
theorem curOf_nil : curOf [] = 0 := rfl
theorem curOf_snoc (ns : List Sn) (p : Sn) : curOf (ns ++ [p]) = p.id.toNat := by
  unfold curOf
  rw [show (ns ++ [p]).length = ns.length + 1 by simp, wasN_succ]
  simp [List.getD]
/-! ### Open -/
def bodyOf (l : List UInt8) : List UInt8 := (open_ l).getD []
def oErr (l : List UInt8) : Nat :=
  if (open_ l).isSome = false then 101 else if (bodyOf l).length < 3 ∨ (bodyOf l).take 3 ≠ tf1 then 100
  else if (opn ((bodyOf l).drop 3)).2.2 = true ∨ rightP (opn ((bodyOf l).drop 3)).1 (opn ((bodyOf l).drop 3)).2.1 (curOf (opn ((bodyOf l).drop 3)).2.1) = false ∨ wrS (opn ((bodyOf l).drop 3)).1 (opn ((bodyOf l).drop 3)).2.1 ≠ l then 102 else 0
def OpEnd (w : World) (l : List UInt8) : Ending → World → Prop :=
  if oErr l = 0 then StepEnd w 0 (opn ((bodyOf l).drop 3)).1 (opn ((bodyOf l).drop 3)).2.1 (curOf (opn ((bodyOf l).drop 3)).2.1) else StepEnd w (oErr l) [] [] 0
theorem opEnd_bad {w w' : World} {l : List UInt8} {er : Nat} (h : oErr l = er) (h0 : er ≠ 0) (hb : Below w.heap.size w w') : OpEnd w l (.returned (.tuple #[.agg #[.slice none 0 0, .slice none 0 0, .int .u64 0], .int .i64 (er : Int)])) w' := by
  unfold OpEnd
  rw [h, if_neg h0]
  exact step_bad w w' er hb
/-! ### what was written is read -/
theorem mnum_put {n : Nat} (h : n < 18446744073709551616) (rest : List UInt8) : mnum (Var.put n ++ rest) false = (n, rest, false) := by
  have hg := Var.get_put h rest
  rw [mnum_ok (by rw [hg]; simp), hg]
  simp
theorem mtext_tx {s : ByteArray} (h : s.size ≤ 24) (rest : List UInt8) : mtext (tx s ++ rest) false = (s, rest, false) := by
  have e : tx s ++ rest = Var.put s.size ++ (s.data.toList ++ rest) := by unfold tx; rw [List.append_assoc]
  have hm := mnum_put (n := s.size) (by omega) (s.data.toList ++ rest)
  have hs : s.data.toList.length = s.size := by rw [Array.length_toList]; rfl
  unfold mtext
  rw [e, hm, if_neg (by simp only [List.length_append, hs]; simp)]
  simp only []
  rw [← hs, List.take_left, List.drop_left]
theorem mtexts_txs : ∀ (ms acc : List ByteArray) (rest : List UInt8), (∀ s ∈ ms, s.size ≤ 24) → acc.length + ms.length ≤ 8 → mtexts ms.length (txs ms ++ rest) false acc = (acc ++ ms, rest, false)
  | [], acc, rest, _, _ => by simp [txs, mtexts]
  | s :: ms, acc, rest, h, h8 => by
    have e : txs (s :: ms) ++ rest = tx s ++ (txs ms ++ rest) := by simp [txs]
    rw [List.length_cons] at h8
    rw [e, List.length_cons, mtexts_on, mtext_tx (h s (by simp))]
    have hd : decide (8 < acc.length + 1) = false := decide_eq_false (by omega)
    simp only [hd, Bool.or_false]
    rw [mtexts_txs ms _ rest (fun x hx => h x (by simp [hx])) (by simp; omega)]
    simp
theorem msnap_snB {p : Sn} (h : namesOk p.ms = true) (rest : List UInt8) : msnap (snB p ++ rest) false = (p, rest, false) := by
  obtain ⟨h8, hs⟩ := names_at h
  have n1 := p.id.toNat_lt
  have n2 := p.par.toNat_lt
  have n3 := p.seq.toNat_lt
  have n4 := p.off.toNat_lt
  have n5 := p.tim.toNat_lt
  have n6 := p.sch.toNat_lt
  have e : snB p ++ rest = Var.put p.id.toNat ++ (Var.put p.par.toNat ++ (Var.put p.seq.toNat ++ (Var.put p.off.toNat ++ (Var.put p.tim.toNat ++ (Var.put p.sch.toNat ++ (Var.put p.ms.length ++ (txs p.ms ++ rest))))))) := by
    simp [snB, putAll, nums]
  rw [e]
  have hd : decide (4294967295 < p.sch.toNat) = false := decide_eq_false (by omega)
  rw [msnap_of (mnum_put (by omega) _) (mnum_put (by omega) _) (mnum_put (by omega) _) (mnum_put (by omega) _) (mnum_put (by omega) _) (mnum_put (by omega) _) (by rw [hd]; exact mnum_put (by omega) _) (mtexts_txs p.ms [] rest hs (by simpa using h8))]
  simp only [mk7, UInt64.ofNat_toNat, UInt32.ofNat_toNat, List.nil_append]
theorem oS_packs : ∀ (ss acc : List Ps) (rest : List UInt8), (∀ s ∈ ss, check s.1 s.2 = 0) → acc.length + ss.length ≤ 16 → oS ss.length (packs ss ++ rest) false acc = (acc ++ ss, rest, false)
  | [], acc, rest, _, _ => by simp [packs, oS]
  | s :: ss, acc, rest, h, h8 => by
    have e : packs (s :: ss) ++ rest = pack s.1 s.2 ++ (packs ss ++ rest) := by simp [packs]
    rw [List.length_cons] at h8
    have hp := pack_unp (h s (by simp)) (packs ss ++ rest)
    obtain ⟨q1, q2, q3⟩ := unp_ok hp
    rw [e, List.length_cons, oS_on, q1, q2, q3, hp]
    have hd : decide (16 < acc.length + 1) = false := decide_eq_false (by omega)
    simp only [hd, Bool.or_false]
    rw [show decide ((0 : Nat) ≠ 0) = false from rfl, oS_packs ss _ rest (fun x hx => h x (by simp [hx])) (by simp; omega)]
    simp
theorem oN_snBs : ∀ (ns acc : List Sn) (rest : List UInt8), (∀ s ∈ ns, namesOk s.ms = true) → acc.length + ns.length ≤ 32 → oN ns.length (snBs ns ++ rest) false acc = (acc ++ ns, rest, false)
  | [], acc, rest, _, _ => by simp [snBs, oN]
  | s :: ns, acc, rest, h, h8 => by
    have e : snBs (s :: ns) ++ rest = snB s ++ (snBs ns ++ rest) := by simp [snBs]
    rw [List.length_cons] at h8
    rw [e, List.length_cons, oN_on, msnap_snB (h s (by simp))]
    have hd : decide (32 < acc.length + 1) = false := decide_eq_false (by omega)
    simp only [hd, Bool.or_false]
    rw [oN_snBs ns _ rest (fun x hx => h x (by simp [hx])) (by simp; omega)]
    simp
theorem right_cur {ss : List Ps} {ns : List Sn} {cur : Nat} (h : rightP ss ns cur = true) : cur = curOf ns := by
  unfold rightP at h
  simp only [Bool.and_eq_true, decide_eq_true_eq] at h
  exact h.2.2.2
theorem opn_wr {ss : List Ps} {ns : List Sn} {cur : Nat} (h : rightP ss ns cur = true) : opn ((wrT ss ns).drop 3) = (ss, ns, false) := by
  obtain ⟨⟨h1, h2, h3⟩, h4, h5⟩ := right_has h
  have e : (wrT ss ns).drop 3 = Var.put ss.length ++ (packs ss ++ (Var.put ns.length ++ (snBs ns ++ []))) := by
    simp [wrT, wr1, wr0, tf1]
  rw [e]
  have a := oS_packs ss [] (Var.put ns.length ++ (snBs ns ++ [])) h4 (by simpa using h2)
  have b := oN_snBs ns [] [] h5 (by simpa using h3)
  rw [List.nil_append] at a b
  exact opn_of (mnum_put (by omega) _) a (mnum_put (by omega) _) b
theorem body_wr (ss : List Ps) (ns : List Sn) : (open_ (wrS ss ns)).isSome = true ∧ bodyOf (wrS ss ns) = wrT ss ns := by
  unfold bodyOf wrS
  rw [open_seal]
  exact ⟨rfl, rfl⟩
theorem oErr_wr {ss : List Ps} {ns : List Sn} {cur : Nat} (h : rightP ss ns cur = true) : oErr (wrS ss ns) = 0 := by
  obtain ⟨a, b⟩ := body_wr ss ns
  have hc := right_cur h
  unfold oErr
  rw [b, opn_wr h, if_neg (by rw [a]; simp), if_neg (by simp [wrT, wr1, wr0, tf1]), if_neg]
  rintro (q | q | q)
  · cases q
  · rw [← hc] at q
    rw [h] at q
    cases q
  · exact q rfl
end Go.Proofs.YtlccpchlclpnaaaDoor
