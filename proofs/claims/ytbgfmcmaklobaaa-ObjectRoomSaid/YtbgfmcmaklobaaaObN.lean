/- THE WALK of object's named. No statement of the seat is proved here; no condition. -/
import Derived.Test.YtbgfmcmaklobaaaObP
namespace Go.Proofs.Ytbgfmcmaklobaaa
open Go.RowKit

theorem wid_pos (s : ByteArray) (p : Nat) (h : p < s.size) : 0 < wid s p := Lib.decode_width_pos s p h
theorem allFrom_yes (s : ByteArray) (q : Nat → Bool) (b p : Nat) (h : p < s.size) (hb : s.size ≤ p + b) (hq : q p = true) : ∃ b', allFrom s q b p = allFrom s q b' (p + wid s p) ∧ s.size ≤ p + wid s p + b' := by
  have := wid_pos s p h
  cases b with
  | zero => omega
  | succ b => exact ⟨b, by simp [allFrom, h, hq], by omega⟩
theorem pathAt_eq (s : ByteArray) (p c : Nat) (h : sgn s p = c) : pathAt s p = decide (97 ≤ c ∧ c ≤ 122 ∨ 48 ≤ c ∧ c ≤ 57 ∨ c = 47 ∨ c = 45) := by subst h; rfl
set_option maxRecDepth 100000 in
set_option maxHeartbeats 1000000 in
theorem objNamed (w : World) (s : ByteArray) : Calls Try.prog 22 #[.string s] w fun e w' => e = .returned (.bool (pathOk s)) ∧ Below w.heap.size w w' := by
  by_cases h1 : s.size < 1
  · rw [pathOk_short h1]
    have t1 : decide ((s.size : Int) < 1) = true := decide_eq_true (by omega)
    clear h1
    go_enter Try.func22, Try.ntmps22
    go_wp2_with fail
    go_ret
    exact ⟨rfl, Below.refl _ _⟩
  · have t1 : decide ((s.size : Int) < 1) = false := decide_eq_false (by omega)
    by_cases h2 : 24 < s.size
    · rw [pathOk_long h2]
      have t2 : decide ((24 : Int) < (s.size : Int)) = true := decide_eq_true (by omega)
      clear h1 h2
      go_enter Try.func22, Try.ntmps22
      go_wp2_with fail
      go_ret
      exact ⟨rfl, Below.refl _ _⟩
    · have t2 : decide ((24 : Int) < (s.size : Int)) = false := decide_eq_false (by omega)
      rw [pathOk_mid (by omega) (by omega)]
      have hsz : s.size ≤ 24 := by omega
      obtain ⟨res, hres⟩ : ∃ res, res = allFrom s (pathAt s) s.size 0 := ⟨_, rfl⟩
      rw [← hres]
      have HRES := hide hres
      clear h1 h2 hres
      go_enter Try.func22, Try.ntmps22
      go_wp2_with fail
      go_loopw [4] (fun _ w' => ∃ (pos b : Nat), w' = w.iter s pos ∧ Hid (allFrom s (pathAt s) b pos = res) ∧ s.size ≤ pos + b) (fun _ w' => s.size - w'.iterPos w.heap.size)
      case atStart => exact ⟨0, s.size, rfl, hide HRES.out.symm, by omega⟩
      case round =>
        obtain ⟨pos, b, rfl, hc, hb⟩ := hrel
        by_cases hp : pos < s.size
        · have hnx : ∀ ty, (Instr.next (.pointer (some ⟨w.heap.size, 0, none⟩)) true ty).run Try.prog (w.iter s pos) = .ok (.tuple #[.bool true, .int .i64 pos, .int .i32 (sgn s pos : Int)]) (w.iter s (pos + wid s pos)) := fun ty => run_next_any w s pos ty hp
          have hwp := wid_pos s pos hp
          have HM := hide (show s.size - (pos + wid s pos) < s.size - pos by omega)
          have HP := hide hp
          have HB := hide hb
          clear hb
          generalize hcc : sgn s pos = c at *
          have HCC := hide hcc
          clear hcc hwp hp
          rcases (show (c < 45) ∨ (c = 45) ∨ (c = 46) ∨ (c = 47) ∨ (48 ≤ c ∧ c ≤ 57) ∨ (58 ≤ c ∧ c ≤ 96) ∨ (97 ≤ c ∧ c ≤ 122) ∨ (123 ≤ c) by omega) with g | g | g | g | g | g | g | g
          · have a1 : decide ((97 : Int) ≤ (c : Int)) = false := decide_eq_false (by omega)
            have a2 : decide ((c : Int) ≤ 122) = true := decide_eq_true (by omega)
            have a3 : decide ((48 : Int) ≤ (c : Int)) = false := decide_eq_false (by omega)
            have a4 : decide ((c : Int) ≤ 57) = true := decide_eq_true (by omega)
            have a5 : ((c : Int) == 47) = false := by rw [beq_eq_false_iff_ne]; omega
            have a6 : ((c : Int) == 45) = false := by rw [beq_eq_false_iff_ne]; omega
            have HO : Hid (pathAt s pos = false) := hide (by rw [pathAt_eq s pos c HCC.out]; exact decide_eq_false (by omega))
            have HG := hide g
            clear g
            go_wp2_with fail
            go_ret
            have he := hc.out
            rw [allFrom_no s _ b pos HP.out HB.out HO.out] at he
            exact ⟨by rw [← he]; rfl, (Below.refl _ _).alloc (Nat.le_refl _) _⟩
          · have a1 : decide ((97 : Int) ≤ (c : Int)) = false := decide_eq_false (by omega)
            have a2 : decide ((c : Int) ≤ 122) = true := decide_eq_true (by omega)
            have a3 : decide ((48 : Int) ≤ (c : Int)) = false := decide_eq_false (by omega)
            have a4 : decide ((c : Int) ≤ 57) = true := decide_eq_true (by omega)
            have a5 : ((c : Int) == 47) = false := by rw [beq_eq_false_iff_ne]; omega
            have a6 : ((c : Int) == 45) = true := by rw [beq_iff_eq]; omega
            have HO : Hid (pathAt s pos = true) := hide (by rw [pathAt_eq s pos c HCC.out]; exact decide_eq_true (by omega))
            have HG := hide g
            clear g
            go_wp2_with fail
            go_roundw
            case rel =>
              obtain ⟨b', h1, h2⟩ := allFrom_yes s _ b pos HP.out HB.out HO.out
              exact ⟨_, b', rfl, hide (h1 ▸ hc.out), h2⟩
            case measure => simpa using HM.out
          · have a1 : decide ((97 : Int) ≤ (c : Int)) = false := decide_eq_false (by omega)
            have a2 : decide ((c : Int) ≤ 122) = true := decide_eq_true (by omega)
            have a3 : decide ((48 : Int) ≤ (c : Int)) = false := decide_eq_false (by omega)
            have a4 : decide ((c : Int) ≤ 57) = true := decide_eq_true (by omega)
            have a5 : ((c : Int) == 47) = false := by rw [beq_eq_false_iff_ne]; omega
            have a6 : ((c : Int) == 45) = false := by rw [beq_eq_false_iff_ne]; omega
            have HO : Hid (pathAt s pos = false) := hide (by rw [pathAt_eq s pos c HCC.out]; exact decide_eq_false (by omega))
            have HG := hide g
            clear g
            go_wp2_with fail
            go_ret
            have he := hc.out
            rw [allFrom_no s _ b pos HP.out HB.out HO.out] at he
            exact ⟨by rw [← he]; rfl, (Below.refl _ _).alloc (Nat.le_refl _) _⟩
          · have a1 : decide ((97 : Int) ≤ (c : Int)) = false := decide_eq_false (by omega)
            have a2 : decide ((c : Int) ≤ 122) = true := decide_eq_true (by omega)
            have a3 : decide ((48 : Int) ≤ (c : Int)) = false := decide_eq_false (by omega)
            have a4 : decide ((c : Int) ≤ 57) = true := decide_eq_true (by omega)
            have a5 : ((c : Int) == 47) = true := by rw [beq_iff_eq]; omega
            have a6 : ((c : Int) == 45) = false := by rw [beq_eq_false_iff_ne]; omega
            have HO : Hid (pathAt s pos = true) := hide (by rw [pathAt_eq s pos c HCC.out]; exact decide_eq_true (by omega))
            have HG := hide g
            clear g
            go_wp2_with fail
            go_roundw
            case rel =>
              obtain ⟨b', h1, h2⟩ := allFrom_yes s _ b pos HP.out HB.out HO.out
              exact ⟨_, b', rfl, hide (h1 ▸ hc.out), h2⟩
            case measure => simpa using HM.out
          · have a1 : decide ((97 : Int) ≤ (c : Int)) = false := decide_eq_false (by omega)
            have a2 : decide ((c : Int) ≤ 122) = true := decide_eq_true (by omega)
            have a3 : decide ((48 : Int) ≤ (c : Int)) = true := decide_eq_true (by omega)
            have a4 : decide ((c : Int) ≤ 57) = true := decide_eq_true (by omega)
            have a5 : ((c : Int) == 47) = false := by rw [beq_eq_false_iff_ne]; omega
            have a6 : ((c : Int) == 45) = false := by rw [beq_eq_false_iff_ne]; omega
            have HO : Hid (pathAt s pos = true) := hide (by rw [pathAt_eq s pos c HCC.out]; exact decide_eq_true (by omega))
            have HG := hide g
            clear g
            go_wp2_with fail
            go_roundw
            case rel =>
              obtain ⟨b', h1, h2⟩ := allFrom_yes s _ b pos HP.out HB.out HO.out
              exact ⟨_, b', rfl, hide (h1 ▸ hc.out), h2⟩
            case measure => simpa using HM.out
          · have a1 : decide ((97 : Int) ≤ (c : Int)) = false := decide_eq_false (by omega)
            have a2 : decide ((c : Int) ≤ 122) = true := decide_eq_true (by omega)
            have a3 : decide ((48 : Int) ≤ (c : Int)) = true := decide_eq_true (by omega)
            have a4 : decide ((c : Int) ≤ 57) = false := decide_eq_false (by omega)
            have a5 : ((c : Int) == 47) = false := by rw [beq_eq_false_iff_ne]; omega
            have a6 : ((c : Int) == 45) = false := by rw [beq_eq_false_iff_ne]; omega
            have HO : Hid (pathAt s pos = false) := hide (by rw [pathAt_eq s pos c HCC.out]; exact decide_eq_false (by omega))
            have HG := hide g
            clear g
            go_wp2_with fail
            go_ret
            have he := hc.out
            rw [allFrom_no s _ b pos HP.out HB.out HO.out] at he
            exact ⟨by rw [← he]; rfl, (Below.refl _ _).alloc (Nat.le_refl _) _⟩
          · have a1 : decide ((97 : Int) ≤ (c : Int)) = true := decide_eq_true (by omega)
            have a2 : decide ((c : Int) ≤ 122) = true := decide_eq_true (by omega)
            have a3 : decide ((48 : Int) ≤ (c : Int)) = true := decide_eq_true (by omega)
            have a4 : decide ((c : Int) ≤ 57) = false := decide_eq_false (by omega)
            have a5 : ((c : Int) == 47) = false := by rw [beq_eq_false_iff_ne]; omega
            have a6 : ((c : Int) == 45) = false := by rw [beq_eq_false_iff_ne]; omega
            have HO : Hid (pathAt s pos = true) := hide (by rw [pathAt_eq s pos c HCC.out]; exact decide_eq_true (by omega))
            have HG := hide g
            clear g
            go_wp2_with fail
            go_roundw
            case rel =>
              obtain ⟨b', h1, h2⟩ := allFrom_yes s _ b pos HP.out HB.out HO.out
              exact ⟨_, b', rfl, hide (h1 ▸ hc.out), h2⟩
            case measure => simpa using HM.out
          · have a1 : decide ((97 : Int) ≤ (c : Int)) = true := decide_eq_true (by omega)
            have a2 : decide ((c : Int) ≤ 122) = false := decide_eq_false (by omega)
            have a3 : decide ((48 : Int) ≤ (c : Int)) = true := decide_eq_true (by omega)
            have a4 : decide ((c : Int) ≤ 57) = false := decide_eq_false (by omega)
            have a5 : ((c : Int) == 47) = false := by rw [beq_eq_false_iff_ne]; omega
            have a6 : ((c : Int) == 45) = false := by rw [beq_eq_false_iff_ne]; omega
            have HO : Hid (pathAt s pos = false) := hide (by rw [pathAt_eq s pos c HCC.out]; exact decide_eq_false (by omega))
            have HG := hide g
            clear g
            go_wp2_with fail
            go_ret
            have he := hc.out
            rw [allFrom_no s _ b pos HP.out HB.out HO.out] at he
            exact ⟨by rw [← he]; rfl, (Below.refl _ _).alloc (Nat.le_refl _) _⟩
        · have hnx : ∀ ty, (Instr.next (.pointer (some ⟨w.heap.size, 0, none⟩)) true ty).run Try.prog (w.iter s pos) = _ := fun ty => run_next_end w s pos ty hp
          have he := hc.out
          rw [allFrom_end s _ b pos hp] at he
          have HE := hide he
          clear he
          go_wp2_with fail
          go_ret
          exact ⟨by rw [← HE.out]; rfl, (Below.refl _ _).alloc (Nat.le_refl _) _⟩

end Go.Proofs.Ytbgfmcmaklobaaa
