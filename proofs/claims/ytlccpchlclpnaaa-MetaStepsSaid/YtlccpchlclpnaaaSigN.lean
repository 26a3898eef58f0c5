/- THE WALKS of the document's signs of a text, and of a name. No statement of the seat is proved here; no condition. -/
import Derived.Test.YtlccpchlclpnaaaSigS
namespace Go.Proofs.Ytlccpchlclpnaaa
open Go.RowKit

theorem tyInts : STy Try.prog 128 3 1 8 (.int .i64 0) := ⟨Try.underlying128, by kernel_rfl, rfl, by decide, by decide⟩

/-! ### two rows of the call's own lie apart -/
def Apart (a b : Value) : Prop := ∀ k, a.ownBlock = some k → b.ownBlock ≠ some k
theorem Apart.symm {a b : Value} (h : Apart a b) : Apart b a := fun k h1 h2 => h k h2 h1
theorem Apart.app {w : World} {a a' b : Value} {base : Nat} {e : TypeId} {sz n : Nat} {xs : List Value} (h : Apart a b) (hb : w.ownsRow base e sz b n xs) (h' : a'.ownBlock = a.ownBlock ∨ a'.ownBlock = some w.heap.size) : Apart a' b := by
  intro k hk hbk
  rcases h' with h1 | h1
  · exact h k (h1 ▸ hk) hbk
  · rw [h1] at hk
    injection hk with hk
    have := (hb.lt k hbk).2
    omega
theorem Apart.kept {w w' : World} {a b : Value} {base : Nat} {e : TypeId} {sz n : Nat} {xs : List Value} (h : Apart a b) (hb : w.ownsRow base e sz b n xs) (hg : w.grownBy w' a.ownBlock) : w'.ownsRow base e sz b n xs :=
  hb.kept hg (by
    cases hv : b.ownBlock with
    | none => exact .inl rfl
    | some k => exact .inr fun h2 => h k h2.symm hv)
theorem Apart.none_left (b : Value) : Apart (.slice none 0 0) b := fun k h => by simp [Value.ownBlock] at h

/-- the places at which signs begin, from p on -/
def posFrom (s : ByteArray) : Nat → Nat → List Nat
  | 0, _ => []
  | b + 1, p => if p < s.size then p :: posFrom s b (p + wid s p) else []
def allPos (s : ByteArray) : List Nat := posFrom s s.size 0
theorem posFrom_end (s : ByteArray) (b p : Nat) (h : ¬ p < s.size) : posFrom s b p = [] := by
  cases b with
  | zero => rfl
  | succ b => simp [posFrom, h]
theorem posFrom_step (s : ByteArray) (b p : Nat) (h : p < s.size) (hb : s.size ≤ p + b) : ∃ b', posFrom s b p = p :: posFrom s b' (p + wid s p) ∧ s.size ≤ p + wid s p + b' := by
  have := wid_pos s p h
  cases b with
  | zero => omega
  | succ b => exact ⟨b, by simp [posFrom, h], by omega⟩
theorem posFrom_all (s : ByteArray) (q : Nat → Bool) : ∀ b p, (posFrom s b p).all q = allFrom s q b p := by
  intro b
  induction b with
  | zero => intro p; rfl
  | succ b ih =>
    intro p
    by_cases h : p < s.size
    · simp only [posFrom, allFrom, h, if_true, List.all_cons, ih]
    · simp [posFrom, allFrom, h]
theorem posFrom_length (s : ByteArray) : ∀ b p, (posFrom s b p).length ≤ s.size - p := by
  intro b
  induction b with
  | zero => intro p; simp [posFrom]
  | succ b ih =>
    intro p
    by_cases h : p < s.size
    · have := wid_pos s p h
      have := ih (p + wid s p)
      simp only [posFrom, h, if_true, List.length_cons]
      omega
    · simp [posFrom, h]
theorem allPos_clean (s : ByteArray) : (allPos s).all (cleanAt s) = isClean s := posFrom_all s _ _ _
theorem allPos_fair (s : ByteArray) : (allPos s).all (fairAt s) = isFair s := posFrom_all s _ _ _
def intV (n : Nat) : Value := .int .i64 (n : Int)
def sgnsV (s : ByteArray) (l : List Nat) : List Value := l.map fun p => intV (sgn s p)
def intsV (l : List Nat) : List Value := l.map intV

theorem own_snoc {w : World} {base : Nat} {e : TypeId} {v : Value} {n : Nat} {xs : List Value} {u : Value} (h : w.ownsRow base e 1 v (n + 1) (xs ++ #[u].toList)) : w.ownsRow base e 1 v (n + 1) (xs ++ [u]) := h

theorem sgn_tail (s : ByteArray) (p : Nat) : sgn (s.extract p s.size) 0 = sgn s p := by unfold sgn; rw [Lib.tail_decode]; rfl
theorem wid_tail (s : ByteArray) (p : Nat) : wid (s.extract p s.size) 0 = wid s p := by unfold wid; rw [Lib.tail_decode]; rfl
theorem clean_tail (s : ByteArray) (p : Nat) : cleanAt (s.extract p s.size) 0 = cleanAt s p := by unfold cleanAt; rw [sgn_tail, wid_tail]
theorem wid_le (s : ByteArray) (p : Nat) : wid s p ≤ 4 := by
  unfold wid
  rw [Lib.decode_at]
  unfold Lib.decodeN
  repeat' split
  all_goals simp
theorem sgn_le (s : ByteArray) (p : Nat) : sgn s p ≤ 2147483647 := decode_le s p
set_option maxRecDepth 100000 in
set_option maxHeartbeats 2000000 in
theorem signs (w : World) (s : ByteArray) (hmax : s.size ≤ 1000000) :
    Calls Try.prog 85 #[.string s] w fun e w' => ∃ lv av, e = .returned (.tuple #[lv, av, .bool (isClean s)]) ∧ w'.ownsRow w.heap.size 3 1 lv (allPos s).length (sgnsV s (allPos s)) ∧
      w'.ownsRow w.heap.size 3 1 av (allPos s).length (intsV (allPos s)) ∧ Below w.heap.size w w' := by
  go_enter Try.func85, Try.ntmps85
  go_wp2_with fail
  go_loopw [5, 6, 7, 8] (fun lv av cv pv wr => ∃ (pos b : Nat) (l : List Nat), pv = .int .i64 (pos : Int) ∧ cv = .bool (l.all (cleanAt s)) ∧ Hid (allPos s = l ++ posFrom s b pos) ∧ s.size ≤ pos + b ∧
    wr.ownsRow w.heap.size 3 1 lv l.length (sgnsV s l) ∧ wr.ownsRow w.heap.size 3 1 av l.length (intsV l) ∧ Apart lv av ∧ Below w.heap.size w wr) (fun _ _ _ pv _ => s.size - (intOf pv).toNat)
  case atStart => exact ⟨0, s.size, [], rfl, rfl, hide rfl, by omega, World.ownsRow_nil _ _ _ _, World.ownsRow_nil _ _ _ _, Apart.none_left _, Below.refl _ _⟩
  case round =>
    obtain ⟨pos, b, l, rfl, rfl, hp, hb, hl, ha, hap, hbw⟩ := hrel
    by_cases hlt : pos < s.size
    · have t1 : decide ((pos : Int) < (s.size : Int)) = true := decide_eq_true (by omega)
      have hple : pos ≤ s.size := Nat.le_of_lt hlt
      obtain ⟨b', hp1, hb'⟩ := posFrom_step s b pos hlt hb
      have hp2 := hp.out
      rw [hp1] at hp2
      have hp3 := hide (show allPos s = (l ++ [pos]) ++ posFrom s b' (pos + wid s pos) by rw [hp2]; simp)
      have hll : l.length ≤ 1000000 := by
        have h1 := congrArg List.length hp2
        have h2 := posFrom_length s s.size 0
        unfold allPos at h1
        simp at h1
        omega
      have hwd := wid_pos s pos hlt
      have HWD := hide hwd
      have hwl : wid s pos ≤ 4 := wid_le s pos
      clear hp2 hp1 hp hb hwd
      have htl : 0 < (s.extract pos s.size).size := by rw [Lib.tail_size]; omega
      have htm : (s.extract pos s.size).size < 9223372036854775807 := by rw [Lib.tail_size]; omega
      have HT1 := hide htl
      have HT2 := hide htm
      clear htl htm
      go_wp2_with fail
      refine (sign wr _ HT1.out HT2.out).mono ?_
      rintro e w1 ⟨he, rfl⟩
      unfold SignEnd at he
      rw [sgn_tail, wid_tail, clean_tail] at he
      subst he
      have hsz := hbw.size
      generalize hcc : l.all (cleanAt s) = cc
      have HCC := hide hcc
      generalize hco : cleanAt s pos = co
      have HCO := hide hco
      clear hcc hco
      go_wp2_with (first
        | (at_builtin; (refine wpList_app _ tyInts rfl (.tmp 24) (.tmp 26) rfl w.heap.size _ _ _ rfl (hl.alloc _) (wr.heap.size + 1) _ 1 1 _ rfl (Rd.lit wr 3 _ rfl (by decide)) (one_int _ _) (by omega) (by simp; omega) ?_; intro v1 w1 hl1 hg1 hat1; have ha1 := hap.kept (ha.alloc _) hg1; have hap1 := hap.app (ha.alloc _) hat1; have hb1 := below_app (hbw.alloc hbw.size _) (Nat.le_refl _) (hl.alloc _) hg1 (by simp; omega); have hsz1 := hb1.size; clear hat1 hg1 hl ha hap hbw))
        | (at_builtin; (refine wpList_app _ tyInts rfl (.tmp 28) (.tmp 30) rfl w.heap.size _ _ _ rfl (ha1.alloc _) (w1.heap.size + 1) _ 1 1 _ rfl (Rd.lit w1 3 _ rfl (by decide)) (one_int _ _) (by omega) (by simp; omega) ?_; intro v2 w2 ha2 hg2 hat2; have hl2 := hap1.symm.kept (hl1.alloc _) hg2; have hap2 := (hap1.symm.app (hl1.alloc _) hat2).symm; have hb2 := below_app (hb1.alloc hb1.size _) (Nat.le_refl _) (ha1.alloc _) hg2 (by simp; omega); clear hat2 hg2 hl1 ha1 hap1 hb1)))
      all_goals
        (go_roundw
         case rel =>
           refine ⟨pos + wid s pos, b', l ++ [pos], by go_num, ?_, hp3, hb', ?_, ?_, hap2, hb2⟩
           · rw [List.all_append, HCC.out, List.all_cons, List.all_nil, HCO.out]
             simp [*]
           · simpa [sgnsV, intV] using hl2
           · simpa [intsV, intV] using ha2
         case measure => have := HWD.out; simp [intOf]; omega)
    · have t1 : decide ((pos : Int) < (s.size : Int)) = false := decide_eq_false (by omega)
      have hq := hp.out
      rw [posFrom_end s b pos hlt, List.append_nil] at hq
      subst hq
      rw [allPos_clean]
      have HL := hide hl
      have HA := hide ha
      have HW := hide hbw
      clear hl ha hap hbw hb
      go_wp2_with fail
      go_ret3
      exact ⟨_, _, rfl, HL.out, HA.out, HW.out⟩

theorem posFrom_ge (s : ByteArray) : ∀ b p q, q ∈ posFrom s b p → p ≤ q := by
  intro b
  induction b with
  | zero => intro p q h; simp [posFrom] at h
  | succ b ih =>
    intro p q h
    by_cases hp : p < s.size
    · simp only [posFrom, hp, if_true, List.mem_cons] at h
      rcases h with rfl | h
      · exact Nat.le_refl _
      · have := ih _ _ h; omega
    · simp [posFrom, hp] at h
/-- only the first sign begins at place 0 -/
theorem allPos_zero (s : ByteArray) (k : Nat) (h : k < (allPos s).length) : (0 < k) ↔ (0 < (allPos s)[k]) := by
  have hl := posFrom_length s s.size 0
  have hsz : 0 < s.size := by unfold allPos at h; omega
  obtain ⟨b', h1, _⟩ := posFrom_step s s.size 0 hsz (by omega)
  have h1' : allPos s = 0 :: posFrom s b' (0 + wid s 0) := h1
  have hw := wid_pos s 0 hsz
  cases k with
  | zero =>
    have : (allPos s)[0] = 0 := by simp only [h1', List.getElem_cons_zero]
    omega
  | succ k =>
    have hk : k < (posFrom s b' (0 + wid s 0)).length := by rw [h1'] at h; simpa using h
    have e : (allPos s)[k + 1] = (posFrom s b' (0 + wid s 0))[k] := by simp only [h1', List.getElem_cons_succ]
    have := posFrom_ge s b' (0 + wid s 0) _ (List.getElem_mem hk)
    rw [e]
    omega
theorem allPos_len (s : ByteArray) : (allPos s).length ≤ s.size := posFrom_length s _ _

set_option maxRecDepth 100000 in
set_option maxHeartbeats 2000000 in
theorem refNamed (w : World) (s : ByteArray) : Calls Try.prog 56 #[.string s] w fun e w' => e = .returned (.bool (named s)) ∧ Below w.heap.size w w' := by
  by_cases h1 : s.size < 1
  · have hn : named s = false := by unfold named; rw [decide_eq_false (by omega)]; rfl
    rw [hn]
    have t1 : decide ((s.size : Int) < 1) = true := decide_eq_true (by omega)
    clear h1
    go_enter Try.func56, Try.ntmps56
    go_wp2_with fail
    go_ret
    exact ⟨rfl, Below.refl _ _⟩
  · have t1 : decide ((s.size : Int) < 1) = false := decide_eq_false (by omega)
    by_cases h2 : 16 < s.size
    · have hn : named s = false := by unfold named; rw [decide_eq_false (show ¬ s.size ≤ 16 by omega)]; simp
      rw [hn]
      have t2 : decide ((16 : Int) < (s.size : Int)) = true := decide_eq_true (by omega)
      clear h1 h2
      go_enter Try.func56, Try.ntmps56
      go_wp2_with fail
      go_ret
      exact ⟨rfl, Below.refl _ _⟩
    · have t2 : decide ((16 : Int) < (s.size : Int)) = false := decide_eq_false (by omega)
      have hn : named s = (isFair s && isClean s) := by unfold named; rw [decide_eq_true (show 1 ≤ s.size by omega), decide_eq_true (show s.size ≤ 16 by omega), Bool.and_comm (isFair s)]; rfl
      rw [hn]
      have hsz : s.size ≤ 16 := by omega
      have hpl := allPos_len s
      clear h1 h2 hn
      go_enter Try.func56, Try.ntmps56
      go_wp2_with fail
      refine (signs w s (by omega)).mono ?_
      rintro e w1 ⟨lv, av, rfl, hl, _, hb1⟩
      obtain ⟨A, c, rfl, hr⟩ := Rd.of_own hl
      generalize hn : (allPos s).length = n at *
      clear hl
      go_wp2_with fail
      go_loopw [6, 7, 8, 9] (fun iv _ _ _ wr => ∃ k : Nat, k ≤ n ∧ iv = .int .i64 (k : Int) ∧ Hid (∀ j (h : j < (allPos s).length), j < k → fairAt s (allPos s)[j] = true) ∧ w1 = wr) (fun iv _ _ _ _ => n - (intOf iv).toNat)
      case atStart => exact ⟨0, Nat.zero_le _, rfl, hide (fun j _ h => by omega), rfl⟩
      case round =>
        obtain ⟨k, hk, rfl, hf, rfl⟩ := hrel
        by_cases hlt : k < n
        · have hlt' : k < (allPos s).length := by omega
          obtain ⟨b, off, rfl, hbb, hcell⟩ := hr.cellAt (k := k) (by simpa [sgnsV] using hlt')
          have hz := allPos_zero s k hlt'
          obtain ⟨p, hp⟩ : ∃ p, p = (allPos s)[k] := ⟨_, rfl⟩
          have hcell' : w1.cell? ⟨b, off + k, none⟩ = some (.int .i64 (sgn s p : Int)) := by rw [hcell, hp]; simp [sgnsV, intV]
          rw [← hp] at hz
          have HP := hide hp
          clear hcell hp
          generalize hcc : sgn s p = ch at *
          have HCC := hide hcc
          have HZ := hide hz
          have HLT := hide hlt'
          clear hcc hz
          go_wp2_with fail
          all_goals first
            | (go_roundw
               case rel =>
                 have hq : fairAt s p = true := by
                   have hz := HZ.out
                   rw [fairAt_eq s p ch HCC.out]
                   apply decide_eq_true
                   try simp only [Bool.not_eq_eq_eq_not, Bool.not_true, Bool.not_false, beq_iff_eq, beq_eq_false_iff_ne, ne_eq, decide_eq_true_eq, decide_eq_false_iff_not] at *
                   omega
                 refine ⟨k + 1, by omega, by go_num, hide (fun j hj h => ?_), trivial⟩
                 by_cases e : j = k
                 · subst e; rw [← HP.out]; exact hq
                 · exact hf.out j hj (by omega)
               case measure => exact meas_sub k n hlt)
            | (go_ret
               have hq : fairAt s p = false := by
                 have hz := HZ.out
                 rw [fairAt_eq s p ch HCC.out]
                 apply decide_eq_false
                 try simp only [Bool.not_eq_eq_eq_not, Bool.not_true, beq_eq_false_iff_ne, ne_eq, decide_eq_false_iff_not] at *
                 omega
               have hff : isFair s = false := by
                 rw [← allPos_fair, List.all_eq_false]
                 exact ⟨(allPos s)[k]'hlt', List.getElem_mem hlt', by rw [← HP.out, hq]; simp⟩
               exact ⟨by rw [hff]; rfl, hb1⟩)
        · obtain rfl : k = n := by omega
          have hff : isFair s = true := by
            rw [← allPos_fair, List.all_eq_true]
            intro q hq
            obtain ⟨j, hj, rfl⟩ := List.mem_iff_getElem.1 hq
            exact hf.out j hj (by omega)
          have HF := hide hff
          clear hff
          go_wp2_with fail
          go_ret
          exact ⟨by rw [HF.out, Bool.true_and]; rfl, hb1⟩
end Go.Proofs.Ytlccpchlclpnaaa
