/- THE NAMES of manifests: plain, and the walks of meta's named and of the document's Named; meta's names. No statement of the seat is proved here; no condition. -/
import Derived.Test.YtlccpchlclpnaaaMetaL
import Derived.Test.YtlccpchlclpnaaaSigW
namespace Go.Proofs.Ytlccpchlclpnaaa
open Go.RowKit

def okP (b : Nat) : Bool := decide (97 ≤ b ∧ b ≤ 122 ∨ 48 ≤ b ∧ b ≤ 57 ∨ b = 47 ∨ b = 45)
def pathAt (s : ByteArray) (p : Nat) : Bool := okP (sgn s p)
def pathOk (s : ByteArray) : Bool := decide (1 ≤ s.size) && decide (s.size ≤ 24) && allFrom s (pathAt s) s.size 0
theorem decodeN_high (n b0 b1 b2 b3 : Nat) (h : 128 ≤ b0) : 128 ≤ (Lib.decodeN n b0 b1 b2 b3).1 := by
  unfold Lib.decodeN
  rw [if_neg (by omega)]
  repeat' split
  all_goals simp only []
  all_goals omega
theorem okP_high {b : Nat} (h : 128 ≤ b) : okP b = false := by unfold okP; exact decide_eq_false (by omega)
theorem pathAt_byte (s : ByteArray) (p : Nat) : pathAt s p = okP (s.get! p).toNat ∧ (pathAt s p = true → wid s p = 1) := by
  unfold pathAt sgn wid
  rw [Lib.decode_at]
  by_cases h : (s.get! p).toNat < 128
  · rw [decodeN_low _ _ _ _ _ h]
    exact ⟨rfl, fun _ => rfl⟩
  · have h1 := okP_high (decodeN_high (s.size - p) (s.get! p).toNat (s.get! (p + 1)).toNat (s.get! (p + 2)).toNat (s.get! (p + 3)).toNat (by omega))
    rw [h1, okP_high (show 128 ≤ (s.get! p).toNat by omega)]
    exact ⟨rfl, fun q => by cases q⟩
theorem path_all (s : ByteArray) : ∀ b p, s.size ≤ p + b → (∀ j, p ≤ j → j < s.size → okP (s.get! j).toNat = true) → allFrom s (pathAt s) b p = true := by
  intro b
  induction b with
  | zero => intro p h _; exact allFrom_end _ _ _ _ (by omega)
  | succ b ih =>
    intro p h hall
    by_cases hp : p < s.size
    · obtain ⟨h1, h2⟩ := pathAt_byte s p
      have h3 : pathAt s p = true := by rw [h1]; exact hall p (Nat.le_refl _) hp
      unfold allFrom
      rw [if_pos hp, h3, Bool.true_and, h2 h3]
      exact ih _ (by omega) fun j hj hj2 => hall j (by omega) hj2
    · exact allFrom_end _ _ _ _ hp
theorem path_bad (s : ByteArray) (j : Nat) (hj : j < s.size) (hb : okP (s.get! j).toNat = false) : ∀ b p, p ≤ j → s.size ≤ p + b → allFrom s (pathAt s) b p = false := by
  intro b
  induction b with
  | zero => intro p h1 h2; omega
  | succ b ih =>
    intro p h1 h2
    obtain ⟨q1, q2⟩ := pathAt_byte s p
    cases h3 : pathAt s p with
    | false => exact allFrom_no _ _ _ _ (by omega) h2 h3
    | true =>
      unfold allFrom
      rw [if_pos (by omega), h3, Bool.true_and, q2 h3]
      have : p ≠ j := by rintro rfl; rw [q1] at h3; rw [h3] at hb; cases hb
      exact ih _ (by omega) (by omega)
theorem pathOk_short {s : ByteArray} (h : s.size < 1) : pathOk s = false := by unfold pathOk; rw [decide_eq_false (by omega)]; rfl
theorem pathOk_long {s : ByteArray} (h : 24 < s.size) : pathOk s = false := by unfold pathOk; rw [decide_eq_false (show ¬ s.size ≤ 24 by omega)]; simp
theorem pathOk_mid {s : ByteArray} (h : 1 ≤ s.size) (h2 : s.size ≤ 24) : pathOk s = allFrom s (pathAt s) s.size 0 := by unfold pathOk; rw [decide_eq_true h, decide_eq_true h2]; rfl
theorem pathAt_eq (s : ByteArray) (p c : Nat) (h : sgn s p = c) : pathAt s p = decide (97 ≤ c ∧ c ≤ 122 ∨ 48 ≤ c ∧ c ≤ 57 ∨ c = 47 ∨ c = 45) := by subst h; rfl

set_option maxRecDepth 100000 in
set_option maxHeartbeats 1000000 in
theorem metaNamed (w : World) (s : ByteArray) : Calls Try.prog 92 #[.string s] w fun e w' => e = .returned (.bool (pathOk s)) ∧ Below w.heap.size w w' := by
  by_cases h1 : s.size < 1
  · rw [pathOk_short h1]
    have t1 : decide ((s.size : Int) < 1) = true := decide_eq_true (by omega)
    clear h1
    go_enter Try.func92, Try.ntmps92
    go_wp2_with fail
    go_ret
    exact ⟨rfl, Below.refl _ _⟩
  · have t1 : decide ((s.size : Int) < 1) = false := decide_eq_false (by omega)
    by_cases h2 : 24 < s.size
    · rw [pathOk_long h2]
      have t2 : decide ((24 : Int) < (s.size : Int)) = true := decide_eq_true (by omega)
      clear h1 h2
      go_enter Try.func92, Try.ntmps92
      go_wp2_with fail
      go_ret
      exact ⟨rfl, Below.refl _ _⟩
    · have t2 : decide ((24 : Int) < (s.size : Int)) = false := decide_eq_false (by omega)
      rw [pathOk_mid (by omega) (by omega)]
      have hsz : s.size ≤ 24 := by omega
      obtain ⟨res, hres⟩ : ∃ res, res = allFrom s (pathAt s) s.size 0 := ⟨_, rfl⟩
      rw [← hres]
      have HRES := hide hres
      clear h1 h2 hres
      go_enter Try.func92, Try.ntmps92
      go_wp2_with fail
      go_loopw [4] (fun _ w' => ∃ (pos b : Nat), w' = w.iter s pos ∧ Hid (allFrom s (pathAt s) b pos = res) ∧ s.size ≤ pos + b) (fun _ w' => s.size - w'.iterPos w.heap.size)
      case atStart => exact ⟨0, s.size, rfl, hide HRES.out.symm, by omega⟩
      case round =>
        obtain ⟨pos, b, rfl, hc, hb⟩ := hrel
        by_cases hp : pos < s.size
        · have hnx : ∀ ty, (Instr.next (.pointer (some ⟨w.heap.size, 0, none⟩)) true ty).run Try.prog (w.iter s pos) = .ok (.tuple #[.bool true, .int .i64 pos, .int .i32 (sgn s pos : Int)]) (w.iter s (pos + wid s pos)) := fun ty => run_next_any w s pos ty hp
          have hwp := wid_pos s pos hp
          have HM := hide (show s.size - (pos + wid s pos) < s.size - pos by omega)
          have HP := hide hp
          have HB := hide hb
          clear hb
          generalize hcc : sgn s pos = c at *
          have HCC := hide hcc
          clear hcc hwp hp
          rcases (show (c < 45) ∨ (c = 45) ∨ (c = 46) ∨ (c = 47) ∨ (48 ≤ c ∧ c ≤ 57) ∨ (58 ≤ c ∧ c ≤ 96) ∨ (97 ≤ c ∧ c ≤ 122) ∨ (123 ≤ c) by omega) with g | g | g | g | g | g | g | g
          · have a1 : decide ((97 : Int) ≤ (c : Int)) = false := decide_eq_false (by omega)
            have a2 : decide ((c : Int) ≤ 122) = true := decide_eq_true (by omega)
            have a3 : decide ((48 : Int) ≤ (c : Int)) = false := decide_eq_false (by omega)
            have a4 : decide ((c : Int) ≤ 57) = true := decide_eq_true (by omega)
            have a5 : ((c : Int) == 47) = false := by rw [beq_eq_false_iff_ne]; omega
            have a6 : ((c : Int) == 45) = false := by rw [beq_eq_false_iff_ne]; omega
            have HO : Hid (pathAt s pos = false) := hide (by rw [pathAt_eq s pos c HCC.out]; exact decide_eq_false (by omega))
            have HG := hide g
            clear g
            go_wp2_with fail
            go_ret
            have he := hc.out
            rw [allFrom_no s _ b pos HP.out HB.out HO.out] at he
            exact ⟨by rw [← he]; rfl, (Below.refl _ _).alloc (Nat.le_refl _) _⟩
          · have a1 : decide ((97 : Int) ≤ (c : Int)) = false := decide_eq_false (by omega)
            have a2 : decide ((c : Int) ≤ 122) = true := decide_eq_true (by omega)
            have a3 : decide ((48 : Int) ≤ (c : Int)) = false := decide_eq_false (by omega)
            have a4 : decide ((c : Int) ≤ 57) = true := decide_eq_true (by omega)
            have a5 : ((c : Int) == 47) = false := by rw [beq_eq_false_iff_ne]; omega
            have a6 : ((c : Int) == 45) = true := by rw [beq_iff_eq]; omega
            have HO : Hid (pathAt s pos = true) := hide (by rw [pathAt_eq s pos c HCC.out]; exact decide_eq_true (by omega))
            have HG := hide g
            clear g
            go_wp2_with fail
            go_roundw
            case rel =>
              obtain ⟨b', h1, h2⟩ := allFrom_yes s _ b pos HP.out HB.out HO.out
              exact ⟨_, b', rfl, hide (h1 ▸ hc.out), h2⟩
            case measure => simpa using HM.out
          · have a1 : decide ((97 : Int) ≤ (c : Int)) = false := decide_eq_false (by omega)
            have a2 : decide ((c : Int) ≤ 122) = true := decide_eq_true (by omega)
            have a3 : decide ((48 : Int) ≤ (c : Int)) = false := decide_eq_false (by omega)
            have a4 : decide ((c : Int) ≤ 57) = true := decide_eq_true (by omega)
            have a5 : ((c : Int) == 47) = false := by rw [beq_eq_false_iff_ne]; omega
            have a6 : ((c : Int) == 45) = false := by rw [beq_eq_false_iff_ne]; omega
            have HO : Hid (pathAt s pos = false) := hide (by rw [pathAt_eq s pos c HCC.out]; exact decide_eq_false (by omega))
            have HG := hide g
            clear g
            go_wp2_with fail
            go_ret
            have he := hc.out
            rw [allFrom_no s _ b pos HP.out HB.out HO.out] at he
            exact ⟨by rw [← he]; rfl, (Below.refl _ _).alloc (Nat.le_refl _) _⟩
          · have a1 : decide ((97 : Int) ≤ (c : Int)) = false := decide_eq_false (by omega)
            have a2 : decide ((c : Int) ≤ 122) = true := decide_eq_true (by omega)
            have a3 : decide ((48 : Int) ≤ (c : Int)) = false := decide_eq_false (by omega)
            have a4 : decide ((c : Int) ≤ 57) = true := decide_eq_true (by omega)
            have a5 : ((c : Int) == 47) = true := by rw [beq_iff_eq]; omega
            have a6 : ((c : Int) == 45) = false := by rw [beq_eq_false_iff_ne]; omega
            have HO : Hid (pathAt s pos = true) := hide (by rw [pathAt_eq s pos c HCC.out]; exact decide_eq_true (by omega))
            have HG := hide g
            clear g
            go_wp2_with fail
            go_roundw
            case rel =>
              obtain ⟨b', h1, h2⟩ := allFrom_yes s _ b pos HP.out HB.out HO.out
              exact ⟨_, b', rfl, hide (h1 ▸ hc.out), h2⟩
            case measure => simpa using HM.out
          · have a1 : decide ((97 : Int) ≤ (c : Int)) = false := decide_eq_false (by omega)
            have a2 : decide ((c : Int) ≤ 122) = true := decide_eq_true (by omega)
            have a3 : decide ((48 : Int) ≤ (c : Int)) = true := decide_eq_true (by omega)
            have a4 : decide ((c : Int) ≤ 57) = true := decide_eq_true (by omega)
            have a5 : ((c : Int) == 47) = false := by rw [beq_eq_false_iff_ne]; omega
            have a6 : ((c : Int) == 45) = false := by rw [beq_eq_false_iff_ne]; omega
            have HO : Hid (pathAt s pos = true) := hide (by rw [pathAt_eq s pos c HCC.out]; exact decide_eq_true (by omega))
            have HG := hide g
            clear g
            go_wp2_with fail
            go_roundw
            case rel =>
              obtain ⟨b', h1, h2⟩ := allFrom_yes s _ b pos HP.out HB.out HO.out
              exact ⟨_, b', rfl, hide (h1 ▸ hc.out), h2⟩
            case measure => simpa using HM.out
          · have a1 : decide ((97 : Int) ≤ (c : Int)) = false := decide_eq_false (by omega)
            have a2 : decide ((c : Int) ≤ 122) = true := decide_eq_true (by omega)
            have a3 : decide ((48 : Int) ≤ (c : Int)) = true := decide_eq_true (by omega)
            have a4 : decide ((c : Int) ≤ 57) = false := decide_eq_false (by omega)
            have a5 : ((c : Int) == 47) = false := by rw [beq_eq_false_iff_ne]; omega
            have a6 : ((c : Int) == 45) = false := by rw [beq_eq_false_iff_ne]; omega
            have HO : Hid (pathAt s pos = false) := hide (by rw [pathAt_eq s pos c HCC.out]; exact decide_eq_false (by omega))
            have HG := hide g
            clear g
            go_wp2_with fail
            go_ret
            have he := hc.out
            rw [allFrom_no s _ b pos HP.out HB.out HO.out] at he
            exact ⟨by rw [← he]; rfl, (Below.refl _ _).alloc (Nat.le_refl _) _⟩
          · have a1 : decide ((97 : Int) ≤ (c : Int)) = true := decide_eq_true (by omega)
            have a2 : decide ((c : Int) ≤ 122) = true := decide_eq_true (by omega)
            have a3 : decide ((48 : Int) ≤ (c : Int)) = true := decide_eq_true (by omega)
            have a4 : decide ((c : Int) ≤ 57) = false := decide_eq_false (by omega)
            have a5 : ((c : Int) == 47) = false := by rw [beq_eq_false_iff_ne]; omega
            have a6 : ((c : Int) == 45) = false := by rw [beq_eq_false_iff_ne]; omega
            have HO : Hid (pathAt s pos = true) := hide (by rw [pathAt_eq s pos c HCC.out]; exact decide_eq_true (by omega))
            have HG := hide g
            clear g
            go_wp2_with fail
            go_roundw
            case rel =>
              obtain ⟨b', h1, h2⟩ := allFrom_yes s _ b pos HP.out HB.out HO.out
              exact ⟨_, b', rfl, hide (h1 ▸ hc.out), h2⟩
            case measure => simpa using HM.out
          · have a1 : decide ((97 : Int) ≤ (c : Int)) = true := decide_eq_true (by omega)
            have a2 : decide ((c : Int) ≤ 122) = false := decide_eq_false (by omega)
            have a3 : decide ((48 : Int) ≤ (c : Int)) = true := decide_eq_true (by omega)
            have a4 : decide ((c : Int) ≤ 57) = false := decide_eq_false (by omega)
            have a5 : ((c : Int) == 47) = false := by rw [beq_eq_false_iff_ne]; omega
            have a6 : ((c : Int) == 45) = false := by rw [beq_eq_false_iff_ne]; omega
            have HO : Hid (pathAt s pos = false) := hide (by rw [pathAt_eq s pos c HCC.out]; exact decide_eq_false (by omega))
            have HG := hide g
            clear g
            go_wp2_with fail
            go_ret
            have he := hc.out
            rw [allFrom_no s _ b pos HP.out HB.out HO.out] at he
            exact ⟨by rw [← he]; rfl, (Below.refl _ _).alloc (Nat.le_refl _) _⟩
        · have hnx : ∀ ty, (Instr.next (.pointer (some ⟨w.heap.size, 0, none⟩)) true ty).run Try.prog (w.iter s pos) = _ := fun ty => run_next_end w s pos ty hp
          have he := hc.out
          rw [allFrom_end s _ b pos hp] at he
          have HE := hide he
          clear he
          go_wp2_with fail
          go_ret
          exact ⟨by rw [← HE.out]; rfl, (Below.refl _ _).alloc (Nat.le_refl _) _⟩
theorem get_at (t : ByteArray) : ∀ k (h : k < t.size), t[k]'h = t.get! k := fun k h => by
  cases t with
  | mk d => exact (getElem!_pos d k h).symm
theorem pathOk_bad {s : ByteArray} {k : Nat} (hk : k < s.size) (hb : okP (s.get! k).toNat = false) : pathOk s = false := by
  unfold pathOk
  rw [path_bad s k hk hb s.size 0 (Nat.zero_le _) (by omega), Bool.and_false]
theorem pathOk_good {s : ByteArray} {k : Nat} (h : s.size ≤ k ∨ 30 ≤ k) (hf : ∀ j, j < k → okP (s.get! j).toNat = true) : pathOk s = (decide (1 ≤ s.size) && decide (s.size ≤ 24)) := by
  unfold pathOk
  by_cases h24 : s.size ≤ 24
  · rw [path_all s s.size 0 (by omega) fun j _ hj => hf j (by omega), Bool.and_true]
  · rw [decide_eq_false h24]; simp
set_option maxRecDepth 100000 in
set_option maxHeartbeats 1000000 in
theorem refNamed12 (w : World) (s : ByteArray) (hs : s.size ≤ 9223372036854775807) : Calls Try.prog 90 #[.string s] w fun e w' => e = .returned (.bool (pathOk s)) ∧ w = w' := by
  go_enter Try.func90, Try.ntmps90
  go_wp2
  go_loop [3] (fun iv => ∃ k : Nat, k ≤ 30 ∧ iv = .int .i64 (k : Int) ∧ Hid (∀ j, j < k → okP (s.get! j).toNat = true)) (fun iv => 30 - (intOf iv).toNat)
  case atStart => exact ⟨0, Nat.zero_le _, rfl, hide (fun j h => by omega)⟩
  case round =>
    obtain ⟨k, hk, rfl, hf⟩ := hrel
    by_cases hlt : k < s.size ∧ k < 30
    · obtain ⟨h1, h2⟩ := hlt
      have HB : Hid (okP (s.get! k).toNat = false → pathOk s = false) := hide (fun h => pathOk_bad h1 h)
      obtain ⟨x, hx⟩ : ∃ x, x = (s.get! k).toNat := ⟨_, rfl⟩
      have hx8 : x < 256 := by rw [hx]; exact (s.get! k).toNat_lt
      have hy : (s[k]'h1).toNat = x := by rw [hx, get_at]
      have HX := hide hx
      clear hx
      rcases (show (x < 45) ∨ (x = 45) ∨ (x = 46) ∨ (x = 47) ∨ (48 ≤ x ∧ x ≤ 57) ∨ (58 ≤ x ∧ x ≤ 96) ∨ (97 ≤ x ∧ x ≤ 122) ∨ (123 ≤ x) by omega) with g | g | g | g | g | g | g | g
      · have a1 : decide ((97 : Int) ≤ (x : Int)) = false := decide_eq_false (by omega)
        have a2 : decide ((x : Int) ≤ 122) = true := decide_eq_true (by omega)
        have a3 : decide ((48 : Int) ≤ (x : Int)) = false := decide_eq_false (by omega)
        have a4 : decide ((x : Int) ≤ 57) = true := decide_eq_true (by omega)
        have a5 : ((x : Int) == 47) = false := by rw [beq_eq_false_iff_ne]; omega
        have a6 : ((x : Int) == 45) = false := by rw [beq_eq_false_iff_ne]; omega
        have HO : Hid (okP (s.get! k).toNat = false) := hide (by rw [← HX.out]; unfold okP; exact decide_eq_false (by omega))
        have HG := hide g
        clear g
        go_wp2
        go_ret
        exact ⟨by rw [HB.out HO.out]; rfl, rfl⟩
      · have a1 : decide ((97 : Int) ≤ (x : Int)) = false := decide_eq_false (by omega)
        have a2 : decide ((x : Int) ≤ 122) = true := decide_eq_true (by omega)
        have a3 : decide ((48 : Int) ≤ (x : Int)) = false := decide_eq_false (by omega)
        have a4 : decide ((x : Int) ≤ 57) = true := decide_eq_true (by omega)
        have a5 : ((x : Int) == 47) = false := by rw [beq_eq_false_iff_ne]; omega
        have a6 : ((x : Int) == 45) = true := by rw [beq_iff_eq]; omega
        have HO : Hid (okP (s.get! k).toNat = true) := hide (by rw [← HX.out]; unfold okP; exact decide_eq_true (by omega))
        have HG := hide g
        clear g
        go_wp2
        go_round
        case rel =>
          refine ⟨k + 1, by omega, by go_num, hide (fun j hj => ?_)⟩
          by_cases e : j = k
          · rw [e]; exact HO.out
          · exact hf.out j (by omega)
        case measure => simp [intOf]; omega
      · have a1 : decide ((97 : Int) ≤ (x : Int)) = false := decide_eq_false (by omega)
        have a2 : decide ((x : Int) ≤ 122) = true := decide_eq_true (by omega)
        have a3 : decide ((48 : Int) ≤ (x : Int)) = false := decide_eq_false (by omega)
        have a4 : decide ((x : Int) ≤ 57) = true := decide_eq_true (by omega)
        have a5 : ((x : Int) == 47) = false := by rw [beq_eq_false_iff_ne]; omega
        have a6 : ((x : Int) == 45) = false := by rw [beq_eq_false_iff_ne]; omega
        have HO : Hid (okP (s.get! k).toNat = false) := hide (by rw [← HX.out]; unfold okP; exact decide_eq_false (by omega))
        have HG := hide g
        clear g
        go_wp2
        go_ret
        exact ⟨by rw [HB.out HO.out]; rfl, rfl⟩
      · have a1 : decide ((97 : Int) ≤ (x : Int)) = false := decide_eq_false (by omega)
        have a2 : decide ((x : Int) ≤ 122) = true := decide_eq_true (by omega)
        have a3 : decide ((48 : Int) ≤ (x : Int)) = false := decide_eq_false (by omega)
        have a4 : decide ((x : Int) ≤ 57) = true := decide_eq_true (by omega)
        have a5 : ((x : Int) == 47) = true := by rw [beq_iff_eq]; omega
        have a6 : ((x : Int) == 45) = false := by rw [beq_eq_false_iff_ne]; omega
        have HO : Hid (okP (s.get! k).toNat = true) := hide (by rw [← HX.out]; unfold okP; exact decide_eq_true (by omega))
        have HG := hide g
        clear g
        go_wp2
        go_round
        case rel =>
          refine ⟨k + 1, by omega, by go_num, hide (fun j hj => ?_)⟩
          by_cases e : j = k
          · rw [e]; exact HO.out
          · exact hf.out j (by omega)
        case measure => simp [intOf]; omega
      · have a1 : decide ((97 : Int) ≤ (x : Int)) = false := decide_eq_false (by omega)
        have a2 : decide ((x : Int) ≤ 122) = true := decide_eq_true (by omega)
        have a3 : decide ((48 : Int) ≤ (x : Int)) = true := decide_eq_true (by omega)
        have a4 : decide ((x : Int) ≤ 57) = true := decide_eq_true (by omega)
        have a5 : ((x : Int) == 47) = false := by rw [beq_eq_false_iff_ne]; omega
        have a6 : ((x : Int) == 45) = false := by rw [beq_eq_false_iff_ne]; omega
        have HO : Hid (okP (s.get! k).toNat = true) := hide (by rw [← HX.out]; unfold okP; exact decide_eq_true (by omega))
        have HG := hide g
        clear g
        go_wp2
        go_round
        case rel =>
          refine ⟨k + 1, by omega, by go_num, hide (fun j hj => ?_)⟩
          by_cases e : j = k
          · rw [e]; exact HO.out
          · exact hf.out j (by omega)
        case measure => simp [intOf]; omega
      · have a1 : decide ((97 : Int) ≤ (x : Int)) = false := decide_eq_false (by omega)
        have a2 : decide ((x : Int) ≤ 122) = true := decide_eq_true (by omega)
        have a3 : decide ((48 : Int) ≤ (x : Int)) = true := decide_eq_true (by omega)
        have a4 : decide ((x : Int) ≤ 57) = false := decide_eq_false (by omega)
        have a5 : ((x : Int) == 47) = false := by rw [beq_eq_false_iff_ne]; omega
        have a6 : ((x : Int) == 45) = false := by rw [beq_eq_false_iff_ne]; omega
        have HO : Hid (okP (s.get! k).toNat = false) := hide (by rw [← HX.out]; unfold okP; exact decide_eq_false (by omega))
        have HG := hide g
        clear g
        go_wp2
        go_ret
        exact ⟨by rw [HB.out HO.out]; rfl, rfl⟩
      · have a1 : decide ((97 : Int) ≤ (x : Int)) = true := decide_eq_true (by omega)
        have a2 : decide ((x : Int) ≤ 122) = true := decide_eq_true (by omega)
        have a3 : decide ((48 : Int) ≤ (x : Int)) = true := decide_eq_true (by omega)
        have a4 : decide ((x : Int) ≤ 57) = false := decide_eq_false (by omega)
        have a5 : ((x : Int) == 47) = false := by rw [beq_eq_false_iff_ne]; omega
        have a6 : ((x : Int) == 45) = false := by rw [beq_eq_false_iff_ne]; omega
        have HO : Hid (okP (s.get! k).toNat = true) := hide (by rw [← HX.out]; unfold okP; exact decide_eq_true (by omega))
        have HG := hide g
        clear g
        go_wp2
        go_round
        case rel =>
          refine ⟨k + 1, by omega, by go_num, hide (fun j hj => ?_)⟩
          by_cases e : j = k
          · rw [e]; exact HO.out
          · exact hf.out j (by omega)
        case measure => simp [intOf]; omega
      · have a1 : decide ((97 : Int) ≤ (x : Int)) = true := decide_eq_true (by omega)
        have a2 : decide ((x : Int) ≤ 122) = false := decide_eq_false (by omega)
        have a3 : decide ((48 : Int) ≤ (x : Int)) = true := decide_eq_true (by omega)
        have a4 : decide ((x : Int) ≤ 57) = false := decide_eq_false (by omega)
        have a5 : ((x : Int) == 47) = false := by rw [beq_eq_false_iff_ne]; omega
        have a6 : ((x : Int) == 45) = false := by rw [beq_eq_false_iff_ne]; omega
        have HO : Hid (okP (s.get! k).toNat = false) := hide (by rw [← HX.out]; unfold okP; exact decide_eq_false (by omega))
        have HG := hide g
        clear g
        go_wp2
        go_ret
        exact ⟨by rw [HB.out HO.out]; rfl, rfl⟩
    · have HI := hide (pathOk_good (s := s) (k := k) (by omega) hf.out)
      rcases Nat.lt_or_ge k s.size with h1 | h1
      · have h2 : ¬ k < 30 := by omega
        clear hlt
        rcases Nat.lt_or_ge 24 s.size with h3 | h3
        · have t1 : decide ((1 : Int) ≤ (s.size : Int)) = true := decide_eq_true (by omega)
          have t2 : decide ((s.size : Int) ≤ 24) = false := decide_eq_false (by omega)
          have HR : Hid (pathOk s = false) := hide (pathOk_long h3)
          clear h3
          go_wp2
          go_ret
          exact ⟨by rw [HR.out]; rfl, rfl⟩
        · exact absurd h1 (by omega)
      · have h2 : ¬ k < s.size := by omega
        clear hlt h1
        by_cases h4 : 1 ≤ s.size
        · have t1 : decide ((1 : Int) ≤ (s.size : Int)) = true := decide_eq_true (by omega)
          by_cases h3 : s.size ≤ 24
          · have t2 : decide ((s.size : Int) ≤ 24) = true := decide_eq_true (by omega)
            have HR : Hid (pathOk s = true) := hide (by rw [HI.out, decide_eq_true h4, decide_eq_true h3]; rfl)
            clear h3 h4
            go_wp2
            go_ret
            exact ⟨by rw [HR.out]; rfl, rfl⟩
          · have t2 : decide ((s.size : Int) ≤ 24) = false := decide_eq_false (by omega)
            have HR : Hid (pathOk s = false) := hide (by rw [HI.out, decide_eq_false h3, Bool.and_false])
            clear h3 h4
            go_wp2
            go_ret
            exact ⟨by rw [HR.out]; rfl, rfl⟩
        · have t1 : decide ((1 : Int) ≤ (s.size : Int)) = false := decide_eq_false (by omega)
          have HR : Hid (pathOk s = false) := hide (by rw [HI.out, decide_eq_false h4]; rfl)
          clear h4
          go_wp2
          go_ret
          exact ⟨by rw [HR.out]; rfl, rfl⟩
end Go.Proofs.Ytlccpchlclpnaaa
