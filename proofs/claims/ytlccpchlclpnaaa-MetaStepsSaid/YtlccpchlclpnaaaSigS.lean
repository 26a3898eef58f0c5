/- THE WALK of the document's sign: three classes of first bytes. No statement of the seat is proved here; no condition. -/
import Derived.Test.YtlccpchlclpnaaaSigW
namespace Go.Proofs.Ytlccpchlclpnaaa
open Go.RowKit

theorem tup_eq (t : ByteArray) (v k : Nat) (c : Bool) (h : Utf8.decode t 0 = (v, k)) (hc : c = !(decide (v = 65533) && decide (k = 1))) :
    (Value.tuple #[.int .i64 (sgn t 0 : Int), .int .i64 (wid t 0 : Int), .bool (cleanAt t 0)]) = .tuple #[.int .i64 (v : Int), .int .i64 (k : Int), .bool c] := by
  unfold cleanAt sgn wid
  rw [h, hc]
theorem val_succ (b : Nat → Nat) (n0 j : Nat) : val b n0 (j + 1) = val b n0 j * 64 + b (j + 1) - 128 := rfl
theorem get_byt (t : ByteArray) (j : Nat) : ((t.get! j).toNat : Int) = (byt t j : Int) := rfl
theorem go_get (t : ByteArray) : ∀ k (h : k < t.size), t[k]'h = t.get! k := fun k h => (by cases t with | mk d => exact (getElem!_pos d k h).symm)
def SignEnd (t : ByteArray) (e : Ending) : Prop := e = .returned (.tuple #[.int .i64 (sgn t 0 : Int), .int .i64 (wid t 0 : Int), .bool (cleanAt t 0)])
theorem SignEnd.of (t : ByteArray) (v k : Nat) (c : Bool) (h : Utf8.decode t 0 = (v, k)) (hc : c = !(decide (v = 65533) && decide (k = 1))) : SignEnd t (.returned (.tuple #[.int .i64 (v : Int), .int .i64 (k : Int), .bool c])) := by
  unfold SignEnd; rw [tup_eq t v k c h hc]
theorem SignEnd.bad (t : ByteArray) (h : Utf8.decode t 0 = (65533, 1)) : SignEnd t (.returned (.tuple #[.int .i64 65533, .int .i64 1, .bool false])) := SignEnd.of t 65533 1 false h rfl
theorem meas_sub (i k : Nat) (h : i < k) : k - (intOf (.int .i64 ((i : Int) + 1))).toNat < k - (intOf (.int .i64 (i : Int))).toNat := by simp [intOf]; omega

set_option maxRecDepth 100000 in
set_option maxHeartbeats 1000000 in
theorem sign2 (w : World) (t : ByteArray) (b0 : Nat) (hb0 : b0 = byt t 0) (hc : 194 ≤ b0 ∧ b0 < 224) (ht : 0 < t.size) (hmax : t.size < 9223372036854775807) :
    Calls Try.prog 95 #[.string t] w fun e w' => SignEnd t e ∧ w = w' := by
  have hget := go_get t
  have hgb := get_byt t
  have hlt := byt_lt t 0
  have HB0 := hide hb0
  have hb0' : (byt t 0 : Int) = (b0 : Int) := by rw [← hb0]
  have s0 : decide ((b0 : Int) < 128) = false := decide_eq_false (by omega)
  have s1 : decide ((194 : Int) ≤ (b0 : Int)) = true := decide_eq_true (by omega)
  have s2 : decide ((b0 : Int) < 224) = true := decide_eq_true (by omega)
  have HC := hide (show Cls 2 128 192 (byt t 0) by rw [← hb0]; unfold Cls; omega)
  have hbl : b0 < 256 := by rw [hb0]; exact hlt
  clear hb0 hlt
  by_cases hn : t.size < 2
  · have sn : decide ((t.size : Int) < 2) = true := decide_eq_true (by omega)
    have HN := hide hn
    clear hn
    go_enter Try.func95, Try.ntmps95
    go_wp2_with fail
    go_ret3
    exact ⟨SignEnd.bad t (by rw [sgn_byt]; exact cls_short (b := byt t) HC.out HN.out), rfl⟩
  · have sn : decide ((t.size : Int) < 2) = false := decide_eq_false (by omega)
    have hkn : 2 ≤ t.size := by omega
    clear hn
    go_enter Try.func95, Try.ntmps95
    go_wp2_with fail
    go_loopw [8, 9] (fun nv iv wr => ∃ (j v : Nat), j < 2 ∧ iv = .int .i64 ((j + 1 : Nat) : Int) ∧ nv = .int .i64 (v : Int) ∧ Hid (v = val (byt t) (byt t 0 - 192) j) ∧ Hid (∀ i, 1 ≤ i → i < j + 1 → 128 ≤ byt t i ∧ byt t i < 192) ∧ w = wr) (fun _ iv _ => 2 - (intOf iv).toNat)
    case atStart => exact ⟨0, b0 - 192, by omega, rfl, by go_num, hide (by rw [HB0.out]; rfl), hide (fun i h1 h2 => by omega), rfl⟩
    case round =>
      obtain ⟨j, v, hj, rfl, rfl, hv, hcont, rfl⟩ := hrel
      clear s0 s1 s2 sn hb0' hc hbl
      have hvs := val_small HC.out j hcont.out hj
      rw [← hv.out] at hvs
      obtain ⟨hv1, hv2, hv3⟩ := hvs
      obtain ⟨i, hi⟩ : ∃ i, i = j + 1 := ⟨_, rfl⟩
      rw [← hi] at hcont hv2 ⊢
      by_cases hik : i < 2
      · have hv2 := hv2 hik
        have si : decide ((i : Int) < 2) = true := decide_eq_true (by omega)
        have hin : i < t.size := by omega
        obtain ⟨x, hx⟩ : ∃ x, x = byt t i := ⟨_, rfl⟩
        have hxb : x < 256 := by rw [hx]; exact byt_lt t i
        have hx' : ((byt t i : Nat) : Int) = (x : Int) := by rw [hx]
        have HX := hide hx
        have HI := hide hi
        have HIK := hide hik
        clear hi hx hik hj
        by_cases hx1 : x < 128
        · have sx1 : decide ((x : Int) < 128) = true := decide_eq_true (by omega)
          have HX1 := hide hx1
          clear hx1
          go_wp2_with fail
          go_ret3
          exact ⟨SignEnd.bad t (by rw [sgn_byt]; exact cls_cut (b := byt t) HC.out i (by rw [HI.out]; omega) HIK.out (byt_lt t i) (.inl (by rw [← HX.out]; exact HX1.out))), rfl⟩
        · have sx1 : decide ((x : Int) < 128) = false := decide_eq_false (by omega)
          by_cases hx2 : 192 ≤ x
          · have sx2 : decide ((192 : Int) ≤ (x : Int)) = true := decide_eq_true (by omega)
            have HX2 := hide hx2
            clear hx1 hx2
            go_wp2_with fail
            go_ret3
            exact ⟨SignEnd.bad t (by rw [sgn_byt]; exact cls_cut (b := byt t) HC.out i (by rw [HI.out]; omega) HIK.out (byt_lt t i) (.inr (by rw [← HX.out]; exact HX2.out))), rfl⟩
          · have sx2 : decide ((192 : Int) ≤ (x : Int)) = false := decide_eq_false (by omega)
            have HX3 := hide (show 128 ≤ x ∧ x < 192 by omega)
            go_wp2_with fail
            go_roundw
            case rel =>
              refine ⟨i, v * 64 + x - 128, HIK.out, by go_num, congrArg _ (by have := HX3.out; omega), hide ?_, hide ?_, trivial⟩
              · have e := val_succ (byt t) (byt t 0 - 192) j
                rw [← HI.out, ← hv.out, ← HX.out] at e
                exact e.symm
              · intro y h1 h2
                by_cases hy : y = i
                · rw [hy, ← HX.out]; exact HX3.out
                · exact hcont.out y h1 (by omega)
            case measure => exact meas_sub i 2 HIK.out
      · have si : decide ((i : Int) < 2) = false := decide_eq_false (by omega)
        have hik' : i = 2 := by omega
        have hd : Utf8.decode t 0 = if v < 128 ∨ 1114111 < v ∨ 55296 ≤ v ∧ v < 57344 then (65533, 1) else (v, 2) := by
          rw [sgn_byt, cls_all (b := byt t) HC.out hkn (fun y h1 h2 => hcont.out y h1 (by omega)), hv.out, show j = 2 - 1 by omega]
        have HD := hide hd
        clear hd hik hi hv2 hj hik'
        by_cases hbad : v < 128 ∨ 1114111 < v ∨ 55296 ≤ v ∧ v < 57344
        · have HE := hide (show Utf8.decode t 0 = (65533, 1) by rw [HD.out, if_pos hbad])
          clear HD
          go_wp2_with fail
          all_goals first
            | (go_ret3; exact ⟨SignEnd.bad t HE.out, rfl⟩)
            | (exfalso; omega)
        · have HE := hide (show Utf8.decode t 0 = (v, 2) by rw [HD.out, if_neg hbad])
          clear HD
          go_wp2_with fail
          all_goals first
            | (go_ret3; exact ⟨SignEnd.of t v 2 true HE.out (by simp), rfl⟩)
            | (exfalso; omega)

set_option maxRecDepth 100000 in
set_option maxHeartbeats 1000000 in
theorem sign3 (w : World) (t : ByteArray) (b0 : Nat) (hb0 : b0 = byt t 0) (hc : 224 ≤ b0 ∧ b0 < 240) (ht : 0 < t.size) (hmax : t.size < 9223372036854775807) :
    Calls Try.prog 95 #[.string t] w fun e w' => SignEnd t e ∧ w = w' := by
  have hget := go_get t
  have hgb := get_byt t
  have hlt := byt_lt t 0
  have HB0 := hide hb0
  have hb0' : (byt t 0 : Int) = (b0 : Int) := by rw [← hb0]
  have s0 : decide ((b0 : Int) < 128) = false := decide_eq_false (by omega)
  have s1 : decide ((194 : Int) ≤ (b0 : Int)) = true := decide_eq_true (by omega)
  have s2 : decide ((b0 : Int) < 224) = false := decide_eq_false (by omega)
  have s3 : decide ((224 : Int) ≤ (b0 : Int)) = true := decide_eq_true (by omega)
  have s4 : decide ((b0 : Int) < 240) = true := decide_eq_true (by omega)
  have HC := hide (show Cls 3 2048 224 (byt t 0) by rw [← hb0]; unfold Cls; omega)
  have hbl : b0 < 256 := by rw [hb0]; exact hlt
  clear hb0 hlt
  by_cases hn : t.size < 3
  · have sn : decide ((t.size : Int) < 3) = true := decide_eq_true (by omega)
    have HN := hide hn
    clear hn
    go_enter Try.func95, Try.ntmps95
    go_wp2_with fail
    go_ret3
    exact ⟨SignEnd.bad t (by rw [sgn_byt]; exact cls_short (b := byt t) HC.out HN.out), rfl⟩
  · have sn : decide ((t.size : Int) < 3) = false := decide_eq_false (by omega)
    have hkn : 3 ≤ t.size := by omega
    clear hn
    go_enter Try.func95, Try.ntmps95
    go_wp2_with fail
    go_loopw [8, 9] (fun nv iv wr => ∃ (j v : Nat), j < 3 ∧ iv = .int .i64 ((j + 1 : Nat) : Int) ∧ nv = .int .i64 (v : Int) ∧ Hid (v = val (byt t) (byt t 0 - 224) j) ∧ Hid (∀ i, 1 ≤ i → i < j + 1 → 128 ≤ byt t i ∧ byt t i < 192) ∧ w = wr) (fun _ iv _ => 3 - (intOf iv).toNat)
    case atStart => exact ⟨0, b0 - 224, by omega, rfl, by go_num, hide (by rw [HB0.out]; rfl), hide (fun i h1 h2 => by omega), rfl⟩
    case round =>
      obtain ⟨j, v, hj, rfl, rfl, hv, hcont, rfl⟩ := hrel
      clear s0 s1 s2 s3 s4 sn hb0' hc hbl
      have hvs := val_small HC.out j hcont.out hj
      rw [← hv.out] at hvs
      obtain ⟨hv1, hv2, hv3⟩ := hvs
      obtain ⟨i, hi⟩ : ∃ i, i = j + 1 := ⟨_, rfl⟩
      rw [← hi] at hcont hv2 ⊢
      by_cases hik : i < 3
      · have hv2 := hv2 hik
        have si : decide ((i : Int) < 3) = true := decide_eq_true (by omega)
        have hin : i < t.size := by omega
        obtain ⟨x, hx⟩ : ∃ x, x = byt t i := ⟨_, rfl⟩
        have hxb : x < 256 := by rw [hx]; exact byt_lt t i
        have hx' : ((byt t i : Nat) : Int) = (x : Int) := by rw [hx]
        have HX := hide hx
        have HI := hide hi
        have HIK := hide hik
        clear hi hx hik hj
        by_cases hx1 : x < 128
        · have sx1 : decide ((x : Int) < 128) = true := decide_eq_true (by omega)
          have HX1 := hide hx1
          clear hx1
          go_wp2_with fail
          go_ret3
          exact ⟨SignEnd.bad t (by rw [sgn_byt]; exact cls_cut (b := byt t) HC.out i (by rw [HI.out]; omega) HIK.out (byt_lt t i) (.inl (by rw [← HX.out]; exact HX1.out))), rfl⟩
        · have sx1 : decide ((x : Int) < 128) = false := decide_eq_false (by omega)
          by_cases hx2 : 192 ≤ x
          · have sx2 : decide ((192 : Int) ≤ (x : Int)) = true := decide_eq_true (by omega)
            have HX2 := hide hx2
            clear hx1 hx2
            go_wp2_with fail
            go_ret3
            exact ⟨SignEnd.bad t (by rw [sgn_byt]; exact cls_cut (b := byt t) HC.out i (by rw [HI.out]; omega) HIK.out (byt_lt t i) (.inr (by rw [← HX.out]; exact HX2.out))), rfl⟩
          · have sx2 : decide ((192 : Int) ≤ (x : Int)) = false := decide_eq_false (by omega)
            have HX3 := hide (show 128 ≤ x ∧ x < 192 by omega)
            go_wp2_with fail
            go_roundw
            case rel =>
              refine ⟨i, v * 64 + x - 128, HIK.out, by go_num, congrArg _ (by have := HX3.out; omega), hide ?_, hide ?_, trivial⟩
              · have e := val_succ (byt t) (byt t 0 - 224) j
                rw [← HI.out, ← hv.out, ← HX.out] at e
                exact e.symm
              · intro y h1 h2
                by_cases hy : y = i
                · rw [hy, ← HX.out]; exact HX3.out
                · exact hcont.out y h1 (by omega)
            case measure => exact meas_sub i 3 HIK.out
      · have si : decide ((i : Int) < 3) = false := decide_eq_false (by omega)
        have hik' : i = 3 := by omega
        have hd : Utf8.decode t 0 = if v < 2048 ∨ 1114111 < v ∨ 55296 ≤ v ∧ v < 57344 then (65533, 1) else (v, 3) := by
          rw [sgn_byt, cls_all (b := byt t) HC.out hkn (fun y h1 h2 => hcont.out y h1 (by omega)), hv.out, show j = 3 - 1 by omega]
        have HD := hide hd
        clear hd hik hi hv2 hj hik'
        by_cases hbad : v < 2048 ∨ 1114111 < v ∨ 55296 ≤ v ∧ v < 57344
        · have HE := hide (show Utf8.decode t 0 = (65533, 1) by rw [HD.out, if_pos hbad])
          clear HD
          go_wp2_with fail
          all_goals first
            | (go_ret3; exact ⟨SignEnd.bad t HE.out, rfl⟩)
            | (exfalso; omega)
        · have HE := hide (show Utf8.decode t 0 = (v, 3) by rw [HD.out, if_neg hbad])
          clear HD
          go_wp2_with fail
          all_goals first
            | (go_ret3; exact ⟨SignEnd.of t v 3 true HE.out (by simp), rfl⟩)
            | (exfalso; omega)

set_option maxRecDepth 100000 in
set_option maxHeartbeats 1000000 in
theorem sign4 (w : World) (t : ByteArray) (b0 : Nat) (hb0 : b0 = byt t 0) (hc : 240 ≤ b0 ∧ b0 < 245) (ht : 0 < t.size) (hmax : t.size < 9223372036854775807) :
    Calls Try.prog 95 #[.string t] w fun e w' => SignEnd t e ∧ w = w' := by
  have hget := go_get t
  have hgb := get_byt t
  have hlt := byt_lt t 0
  have HB0 := hide hb0
  have hb0' : (byt t 0 : Int) = (b0 : Int) := by rw [← hb0]
  have s0 : decide ((b0 : Int) < 128) = false := decide_eq_false (by omega)
  have s1 : decide ((194 : Int) ≤ (b0 : Int)) = true := decide_eq_true (by omega)
  have s2 : decide ((b0 : Int) < 224) = false := decide_eq_false (by omega)
  have s3 : decide ((224 : Int) ≤ (b0 : Int)) = true := decide_eq_true (by omega)
  have s4 : decide ((b0 : Int) < 240) = false := decide_eq_false (by omega)
  have s5 : decide ((240 : Int) ≤ (b0 : Int)) = true := decide_eq_true (by omega)
  have s6 : decide ((b0 : Int) < 245) = true := decide_eq_true (by omega)
  have HC := hide (show Cls 4 65536 240 (byt t 0) by rw [← hb0]; unfold Cls; omega)
  have hbl : b0 < 256 := by rw [hb0]; exact hlt
  clear hb0 hlt
  by_cases hn : t.size < 4
  · have sn : decide ((t.size : Int) < 4) = true := decide_eq_true (by omega)
    have HN := hide hn
    clear hn
    go_enter Try.func95, Try.ntmps95
    go_wp2_with fail
    go_ret3
    exact ⟨SignEnd.bad t (by rw [sgn_byt]; exact cls_short (b := byt t) HC.out HN.out), rfl⟩
  · have sn : decide ((t.size : Int) < 4) = false := decide_eq_false (by omega)
    have hkn : 4 ≤ t.size := by omega
    clear hn
    go_enter Try.func95, Try.ntmps95
    go_wp2_with fail
    go_loopw [8, 9] (fun nv iv wr => ∃ (j v : Nat), j < 4 ∧ iv = .int .i64 ((j + 1 : Nat) : Int) ∧ nv = .int .i64 (v : Int) ∧ Hid (v = val (byt t) (byt t 0 - 240) j) ∧ Hid (∀ i, 1 ≤ i → i < j + 1 → 128 ≤ byt t i ∧ byt t i < 192) ∧ w = wr) (fun _ iv _ => 4 - (intOf iv).toNat)
    case atStart => exact ⟨0, b0 - 240, by omega, rfl, by go_num, hide (by rw [HB0.out]; rfl), hide (fun i h1 h2 => by omega), rfl⟩
    case round =>
      obtain ⟨j, v, hj, rfl, rfl, hv, hcont, rfl⟩ := hrel
      clear s0 s1 s2 s3 s4 s5 s6 sn hb0' hc hbl
      have hvs := val_small HC.out j hcont.out hj
      rw [← hv.out] at hvs
      obtain ⟨hv1, hv2, hv3⟩ := hvs
      obtain ⟨i, hi⟩ : ∃ i, i = j + 1 := ⟨_, rfl⟩
      rw [← hi] at hcont hv2 ⊢
      by_cases hik : i < 4
      · have hv2 := hv2 hik
        have si : decide ((i : Int) < 4) = true := decide_eq_true (by omega)
        have hin : i < t.size := by omega
        obtain ⟨x, hx⟩ : ∃ x, x = byt t i := ⟨_, rfl⟩
        have hxb : x < 256 := by rw [hx]; exact byt_lt t i
        have hx' : ((byt t i : Nat) : Int) = (x : Int) := by rw [hx]
        have HX := hide hx
        have HI := hide hi
        have HIK := hide hik
        clear hi hx hik hj
        by_cases hx1 : x < 128
        · have sx1 : decide ((x : Int) < 128) = true := decide_eq_true (by omega)
          have HX1 := hide hx1
          clear hx1
          go_wp2_with fail
          go_ret3
          exact ⟨SignEnd.bad t (by rw [sgn_byt]; exact cls_cut (b := byt t) HC.out i (by rw [HI.out]; omega) HIK.out (byt_lt t i) (.inl (by rw [← HX.out]; exact HX1.out))), rfl⟩
        · have sx1 : decide ((x : Int) < 128) = false := decide_eq_false (by omega)
          by_cases hx2 : 192 ≤ x
          · have sx2 : decide ((192 : Int) ≤ (x : Int)) = true := decide_eq_true (by omega)
            have HX2 := hide hx2
            clear hx1 hx2
            go_wp2_with fail
            go_ret3
            exact ⟨SignEnd.bad t (by rw [sgn_byt]; exact cls_cut (b := byt t) HC.out i (by rw [HI.out]; omega) HIK.out (byt_lt t i) (.inr (by rw [← HX.out]; exact HX2.out))), rfl⟩
          · have sx2 : decide ((192 : Int) ≤ (x : Int)) = false := decide_eq_false (by omega)
            have HX3 := hide (show 128 ≤ x ∧ x < 192 by omega)
            go_wp2_with fail
            go_roundw
            case rel =>
              refine ⟨i, v * 64 + x - 128, HIK.out, by go_num, congrArg _ (by have := HX3.out; omega), hide ?_, hide ?_, trivial⟩
              · have e := val_succ (byt t) (byt t 0 - 240) j
                rw [← HI.out, ← hv.out, ← HX.out] at e
                exact e.symm
              · intro y h1 h2
                by_cases hy : y = i
                · rw [hy, ← HX.out]; exact HX3.out
                · exact hcont.out y h1 (by omega)
            case measure => exact meas_sub i 4 HIK.out
      · have si : decide ((i : Int) < 4) = false := decide_eq_false (by omega)
        have hik' : i = 4 := by omega
        have hd : Utf8.decode t 0 = if v < 65536 ∨ 1114111 < v ∨ 55296 ≤ v ∧ v < 57344 then (65533, 1) else (v, 4) := by
          rw [sgn_byt, cls_all (b := byt t) HC.out hkn (fun y h1 h2 => hcont.out y h1 (by omega)), hv.out, show j = 4 - 1 by omega]
        have HD := hide hd
        clear hd hik hi hv2 hj hik'
        by_cases hbad : v < 65536 ∨ 1114111 < v ∨ 55296 ≤ v ∧ v < 57344
        · have HE := hide (show Utf8.decode t 0 = (65533, 1) by rw [HD.out, if_pos hbad])
          clear HD
          go_wp2_with fail
          all_goals first
            | (go_ret3; exact ⟨SignEnd.bad t HE.out, rfl⟩)
            | (exfalso; omega)
        · have HE := hide (show Utf8.decode t 0 = (v, 4) by rw [HD.out, if_neg hbad])
          clear HD
          go_wp2_with fail
          all_goals first
            | (go_ret3; exact ⟨SignEnd.of t v 4 true HE.out (by simp), rfl⟩)
            | (exfalso; omega)

set_option maxRecDepth 100000 in
theorem signLow (w : World) (t : ByteArray) (b0 : Nat) (hb0 : b0 = byt t 0) (hc : b0 < 128) (ht : 0 < t.size) :
    Calls Try.prog 95 #[.string t] w fun e w' => SignEnd t e ∧ w = w' := by
  have hget := go_get t
  have hgb := get_byt t
  have hbl : b0 < 256 := by rw [hb0]; exact byt_lt t 0
  have HB0 := hide hb0
  have hb0' : (byt t 0 : Int) = (b0 : Int) := by rw [← hb0]
  have s0 : decide ((b0 : Int) < 128) = true := decide_eq_true (by omega)
  have HC := hide hc
  clear hb0 hc
  go_enter Try.func95, Try.ntmps95
  go_wp2_with fail
  go_ret3
  refine ⟨SignEnd.of t b0 1 true ?_ ?_, rfl⟩
  · rw [sgn_byt, ← HB0.out]; exact decodeN_low _ _ _ _ _ HC.out
  · have := HC.out
    rw [decide_eq_false (show ¬ b0 = 65533 by omega)]; rfl
set_option maxRecDepth 100000 in
theorem signNone (w : World) (t : ByteArray) (b0 : Nat) (hb0 : b0 = byt t 0) (hc : 128 ≤ b0 ∧ b0 < 194 ∨ 245 ≤ b0) (ht : 0 < t.size) :
    Calls Try.prog 95 #[.string t] w fun e w' => SignEnd t e ∧ w = w' := by
  have hget := go_get t
  have hgb := get_byt t
  have hbl : b0 < 256 := by rw [hb0]; exact byt_lt t 0
  have HB0 := hide hb0
  have hb0' : (byt t 0 : Int) = (b0 : Int) := by rw [← hb0]
  have s0 : decide ((b0 : Int) < 128) = false := decide_eq_false (by omega)
  have hd := hide (show Utf8.decode t 0 = (65533, 1) by rw [sgn_byt]; exact cls_none (b := byt t) (byt_lt t 0) (by rw [← hb0]; omega) (by rw [← hb0]; omega))
  rcases hc with hc | hc
  · have s1 : decide ((194 : Int) ≤ (b0 : Int)) = false := decide_eq_false (by omega)
    have s2 : decide ((224 : Int) ≤ (b0 : Int)) = false := decide_eq_false (by omega)
    have s3 : decide ((240 : Int) ≤ (b0 : Int)) = false := decide_eq_false (by omega)
    clear hb0 hc
    go_enter Try.func95, Try.ntmps95
    go_wp2_with fail
    go_ret3
    exact ⟨SignEnd.bad t hd.out, rfl⟩
  · have s1 : decide ((194 : Int) ≤ (b0 : Int)) = true := decide_eq_true (by omega)
    have s2 : decide ((b0 : Int) < 224) = false := decide_eq_false (by omega)
    have s3 : decide ((224 : Int) ≤ (b0 : Int)) = true := decide_eq_true (by omega)
    have s4 : decide ((b0 : Int) < 240) = false := decide_eq_false (by omega)
    have s5 : decide ((240 : Int) ≤ (b0 : Int)) = true := decide_eq_true (by omega)
    have s6 : decide ((b0 : Int) < 245) = false := decide_eq_false (by omega)
    clear hb0 hc
    go_enter Try.func95, Try.ntmps95
    go_wp2_with fail
    go_ret3
    exact ⟨SignEnd.bad t hd.out, rfl⟩
theorem sign (w : World) (t : ByteArray) (ht : 0 < t.size) (hmax : t.size < 9223372036854775807) :
    Calls Try.prog 95 #[.string t] w fun e w' => SignEnd t e ∧ w = w' := by
  have h : byt t 0 < 128 ∨ (128 ≤ byt t 0 ∧ byt t 0 < 194 ∨ 245 ≤ byt t 0) ∨ (194 ≤ byt t 0 ∧ byt t 0 < 224) ∨ (224 ≤ byt t 0 ∧ byt t 0 < 240) ∨ (240 ≤ byt t 0 ∧ byt t 0 < 245) := by omega
  rcases h with h | h | h | h | h
  · exact signLow w t _ rfl h ht
  · exact signNone w t _ rfl h ht
  · exact sign2 w t _ rfl h ht hmax
  · exact sign3 w t _ rfl h ht hmax
  · exact sign4 w t _ rfl h ht hmax
end Go.Proofs.Ytlccpchlclpnaaa
