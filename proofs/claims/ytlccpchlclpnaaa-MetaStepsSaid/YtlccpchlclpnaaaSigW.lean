/- WALKS of signs: a text's beginning; is a text clean; may a name be. No statement of the seat is proved here; no condition. -/
import Derived.Test.YtlccpchlclpnaaaTy
import Derived.Test.YtlccpchlclpnaaaSig
import Derived.Laws.RangeAny
namespace Go.Proofs.Ytlccpchlclpnaaa
open Go.RowKit

set_option maxRecDepth 100000 in
set_option maxHeartbeats 400000 in
theorem hasPrefix1 (w : World) (a b : ByteArray) : Calls Try.prog 97 #[.string a, .string b] w fun e w' => e = .returned (.bool (hasPre a b)) ∧ w = w' := by
  by_cases h : b.size ≤ a.size
  · have t1 : decide ((b.size : Int) ≤ (a.size : Int)) = true := decide_eq_true (by exact_mod_cast h)
    have hp : hasPre a b = ((a.extract 0 b.size).toList == b.toList) := by unfold hasPre; rw [decide_eq_true h, Bool.true_and]
    rw [hp]
    go_enter Try.func97, Try.ntmps97
    go_wp2_with fail
    go_ret
    exact ⟨rfl, rfl⟩
  · have t1 : decide ((b.size : Int) ≤ (a.size : Int)) = false := decide_eq_false (by exact_mod_cast h)
    have hp : hasPre a b = false := by unfold hasPre; rw [decide_eq_false h, Bool.false_and]
    rw [hp]
    go_enter Try.func97, Try.ntmps97
    go_wp2_with fail
    go_ret
    exact ⟨rfl, rfl⟩
theorem hasPrefix (w : World) (a b : ByteArray) : Calls Try.prog 94 #[.string a, .string b] w fun e w' => e = .returned (.bool (hasPre a b)) ∧ w = w' := by
  go_enter Try.func94, Try.ntmps94
  go_wp2_with fail
  refine (hasPrefix1 w a b).mono ?_
  rintro e w' ⟨rfl, rfl⟩
  go_wp2_with fail
  go_ret
  exact ⟨rfl, rfl⟩

set_option maxRecDepth 100000 in
set_option maxHeartbeats 1000000 in
theorem clean (w : World) (s : ByteArray) : Calls Try.prog 84 #[.string s] w fun e w' => e = .returned (.bool (isClean s)) ∧ ∃ pos, w' = w.iter s pos := by
  go_enter Try.func84, Try.ntmps84
  go_wp2_with fail
  go_loopw [3, 4] (fun _ _ w' => ∃ (pos b : Nat), w' = w.iter s pos ∧ Hid (allFrom s (cleanAt s) b pos = isClean s) ∧ s.size ≤ pos + b) (fun _ _ w' => s.size - w'.iterPos w.heap.size)
  case atStart => exact ⟨0, s.size, rfl, hide rfl, by omega⟩
  case round =>
    obtain ⟨pos, b, rfl, hc, hb⟩ := hrel
    by_cases hp : pos < s.size
    · have hnx : ∀ ty, (Instr.next (.pointer (some ⟨w.heap.size, 0, none⟩)) true ty).run Try.prog (w.iter s pos) = .ok (.tuple #[.bool true, .int .i64 pos, .int .i32 (sgn s pos : Int)]) (w.iter s (pos + wid s pos)) := fun ty => run_next_any w s pos ty hp
      have hcl := clean_pre s pos hp
      have hple : pos ≤ s.size := Nat.le_of_lt hp
      have hc' := hc.out
      have hwp := wid_pos s pos hp
      cases hq : cleanAt s pos with
      | true =>
        rw [hq, Bool.not_true] at hcl
        obtain ⟨b', h1, h2⟩ := allFrom_yes s _ b pos hp hb hq
        rw [h1] at hc'
        have HC := hide hc'
        have HM := hide (show s.size - (pos + wid s pos) < s.size - pos by omega)
        clear h1 hc' hc hq hwp hb
        by_cases h65 : sgn s pos = 65533
        · have t1 : ((sgn s pos : Int) == 65533) = true := by rw [h65]; rfl
          rw [decide_eq_true h65, Bool.true_and] at hcl
          have H65 := hide h65
          clear h65
          go_wp2_with (refine (hasPrefix _ _ _).mono ?_; rintro e w' ⟨rfl, rfl⟩)
          go_roundw
          case rel => exact ⟨_, b', rfl, HC, h2⟩
          case measure => simpa using HM.out
        · have t1 : ((sgn s pos : Int) == 65533) = false := by rw [beq_eq_false_iff_ne]; exact fun h => h65 (by omega)
          clear hcl
          have H65 := hide h65
          clear h65
          go_wp2_with fail
          go_roundw
          case rel => exact ⟨_, b', rfl, HC, h2⟩
          case measure => simpa using HM.out
      | false =>
        rw [hq, Bool.not_false] at hcl
        rw [allFrom_no s _ b pos hp hb hq] at hc'
        have HC := hide hc'
        clear hc' hc hq hwp hb
        rw [Bool.and_eq_true] at hcl
        obtain ⟨h65, hpre⟩ := hcl
        have t1 : ((sgn s pos : Int) == 65533) = true := by rw [of_decide_eq_true h65]; rfl
        have H65 := hide h65
        clear h65
        go_wp2_with (refine (hasPrefix _ _ _).mono ?_; rintro e w' ⟨rfl, rfl⟩)
        go_ret
        exact ⟨by rw [← HC.out]; rfl, _, rfl⟩
    · have hnx : ∀ ty, (Instr.next (.pointer (some ⟨w.heap.size, 0, none⟩)) true ty).run Try.prog (w.iter s pos) = _ := fun ty => run_next_end w s pos ty hp
      have he := hc.out
      rw [allFrom_end s _ b pos hp] at he
      have HE := hide he
      clear he
      go_wp2_with fail
      go_ret
      exact ⟨by rw [← HE.out]; rfl, _, rfl⟩
theorem fairAt_eq (s : ByteArray) (p c : Nat) (h : sgn s p = c) : fairAt s p = decide (97 ≤ c ∧ c ≤ 122 ∨ c = 95 ∨ 127 < c ∨ 48 ≤ c ∧ c ≤ 57 ∧ 0 < p) := by subst h; rfl
set_option maxRecDepth 100000 in
set_option maxHeartbeats 1000000 in
theorem schNamed (w : World) (s : ByteArray) : Calls Try.prog 51 #[.string s] w fun e w' => e = .returned (.bool (named s)) ∧ Below w.heap.size w w' := by
  by_cases h1 : s.size < 1
  · have hn : named s = false := by unfold named; rw [decide_eq_false (by omega)]; rfl
    rw [hn]
    have t1 : decide ((s.size : Int) < 1) = true := decide_eq_true (by omega)
    clear h1
    go_enter Try.func51, Try.ntmps51
    go_wp2_with fail
    go_ret
    exact ⟨rfl, Below.refl _ _⟩
  · have t1 : decide ((s.size : Int) < 1) = false := decide_eq_false (by omega)
    by_cases h2 : 16 < s.size
    · have hn : named s = false := by unfold named; rw [decide_eq_false (show ¬ s.size ≤ 16 by omega)]; simp
      rw [hn]
      have t2 : decide ((16 : Int) < (s.size : Int)) = true := decide_eq_true (by omega)
      clear h1 h2
      go_enter Try.func51, Try.ntmps51
      go_wp2_with fail
      go_ret
      exact ⟨rfl, Below.refl _ _⟩
    · have t2 : decide ((16 : Int) < (s.size : Int)) = false := decide_eq_false (by omega)
      have hn : named s = (isClean s && isFair s) := by unfold named; rw [decide_eq_true (show 1 ≤ s.size by omega), decide_eq_true (show s.size ≤ 16 by omega)]; rfl
      rw [hn]
      have hsz : s.size ≤ 16 := by omega
      clear h1 h2 hn
      cases hcl : isClean s with
      | false =>
        go_enter Try.func51, Try.ntmps51
        go_wp2_with (refine (clean _ _).mono ?_; rintro e w' ⟨rfl, pos, rfl⟩; rw [hcl])
        go_ret
        exact ⟨rfl, (Below.refl _ _).alloc (Nat.le_refl _) _⟩
      | true =>
        go_enter Try.func51, Try.ntmps51
        go_wp2_with (refine (clean _ _).mono ?_; rintro e w' ⟨rfl, pos, rfl⟩; rw [hcl])
        obtain ⟨w1, hw1⟩ : ∃ w1, w1 = w.iter s pos := ⟨_, rfl⟩
        have hb1 : Below w.heap.size w w1 := by rw [hw1]; exact (Below.refl _ _).alloc (Nat.le_refl _) _
        rw [← hw1]
        clear hw1
        go_wp2_with fail
        go_loopw [3, 4, 24, 35] (fun _ _ _ _ w' => ∃ (pos b : Nat), w' = w1.iter s pos ∧ Hid (allFrom s (fairAt s) b pos = isFair s) ∧ s.size ≤ pos + b) (fun _ _ _ _ w' => s.size - w'.iterPos w1.heap.size)
        case atStart => exact ⟨0, s.size, rfl, hide rfl, by omega⟩
        case round =>
          obtain ⟨pos, b, rfl, hc, hb⟩ := hrel
          by_cases hp : pos < s.size
          · have hnx : ∀ ty, (Instr.next (.pointer (some ⟨w1.heap.size, 0, none⟩)) true ty).run Try.prog (w1.iter s pos) = .ok (.tuple #[.bool true, .int .i64 pos, .int .i32 (sgn s pos : Int)]) (w1.iter s (pos + wid s pos)) := fun ty => run_next_any w1 s pos ty hp
            have hwp := wid_pos s pos hp
            have HM := hide (show s.size - (pos + wid s pos) < s.size - pos by omega)
            have HP := hide hp
            have HB := hide hb
            clear hb
            generalize hcc : sgn s pos = c at *
            have HCC := hide hcc
            clear hcc hwp hp
            go_wp2_with fail
            all_goals first
              | (go_roundw
                 case rel =>
                   have hq : fairAt s pos = true := by
                     rw [fairAt_eq s pos c HCC.out]
                     apply decide_eq_true
                     try simp only [beq_iff_eq, beq_eq_false_iff_ne] at *
                     omega
                   obtain ⟨b', h1, h2⟩ := allFrom_yes s _ b pos HP.out HB.out hq
                   exact ⟨_, b', rfl, hide (h1 ▸ hc.out), h2⟩
                 case measure => simpa using HM.out)
              | (go_ret
                 have hq : fairAt s pos = false := by
                   rw [fairAt_eq s pos c HCC.out]
                   apply decide_eq_false
                   try simp only [beq_eq_false_iff_ne] at *
                   omega
                 have he := hc.out
                 rw [allFrom_no s _ b pos HP.out HB.out hq] at he
                 exact ⟨by rw [← he]; rfl, hb1.alloc hb1.size _⟩)
          · have hnx : ∀ ty, (Instr.next (.pointer (some ⟨w1.heap.size, 0, none⟩)) true ty).run Try.prog (w1.iter s pos) = _ := fun ty => run_next_end w1 s pos ty hp
            have he := hc.out
            rw [allFrom_end s _ b pos hp] at he
            have HE := hide he
            clear he
            go_wp2_with fail
            go_ret
            exact ⟨by rw [← HE.out]; rfl, hb1.alloc hb1.size _⟩
end Go.Proofs.Ytlccpchlclpnaaa
