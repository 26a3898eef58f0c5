/- THE WALK of the reference's Get alone (as in VarR; for seats without the whole numbers). No condition but the argument's kind. -/
import Derived.Test.YtlccpchlclpnaaaVarG
namespace Go.Proofs.Ytlccpchlclpnaaa
open Go.RowKit

set_option maxRecDepth 100000 in
set_option maxHeartbeats 2000000 in
theorem refGet (w : World) (B n c : Nat) (A : Option Addr) (l : List UInt8) (hr : Rd w B 1 A n c (bytesV l)) (hB : B ≤ w.heap.size) :
    Calls Try.prog 88 #[.slice A n c] w fun e w' => e = .returned (.tuple #[.int .u64 ((Var.get l).1 : Int), .int .i64 ((Var.get l).2.1 : Int), .int .i64 ((Var.get l).2.2 : Int)]) ∧ Below w.heap.size w w' := by
  obtain rfl : n = l.length := by have := hr.len; rw [bytesV_length] at this; omega
  have hmax : l.length ≤ 9223372036854775807 := by have h1 := hr.le; have h2 := hr.cap; unfold maxLen at h2; omega
  go_enter Try.func88, Try.ntmps88
  go_wp2
  go_loop [5] (fun sv => ∃ (k : Nat), k ≤ 10 ∧ k ≤ Var.lead l ∧ k ≤ l.length ∧ sv = .int .i64 k) (fun s => 10 - (intOf s).toNat)
  case atStart => exact ⟨0, by omega, by omega, by omega, rfl⟩
  case round =>
    obtain ⟨k, hk10, hkl, hk, rfl⟩ := hrel
    have hge := Var.get_eq l
    by_cases hlt : k < l.length
    · obtain ⟨b, off, rfl, hbB, hc⟩ := hr.cellAt (k := k) (by rw [bytesV_length]; exact hlt)
      obtain ⟨x, hx⟩ : ∃ x : UInt8, x = l[k] := ⟨_, rfl⟩
      have hc' : w.cell? ⟨b, off + k, none⟩ = some (.int .u8 (x.toNat : Int)) := by rw [hc, hx]; simp [bytesV, byteV]
      have hx256 := x.toNat_lt
      have hst := Var.lead_step l k hkl hlt
      rw [← hx] at hst
      clear hc
      by_cases h10 : k < 10
      · by_cases h128 : 128 ≤ x.toNat
        · rw [if_pos h128] at hst
          clear hge hx
          go_wp2
          go_round
          case rel => exact ⟨k + 1, by omega, by omega, by omega, by go_num⟩
          case measure => simp [intOf]; omega
        · rw [if_neg h128] at hst
          have hx0 := hx
          have HX := hide hx0
          clear hx hx0
          have t0 : ((k : Int) == 10) = false := by simp; omega
          have tl : ((k : Int) == (l.length : Int)) = false := by simp; omega
          by_cases h9 : k = 9 ∧ 1 < x.toNat
          · have hv : Var.get l = (0, 0, 31) := by
              rw [hge, hst, if_neg (by omega), if_neg (by omega), if_pos (.inl ⟨h9.1, by have := HX.out; simp [List.getD, hlt, ← this, h9.2]⟩)]
            have HV := hide hv
            obtain ⟨rfl, h1⟩ := h9
            clear hv hge hst
            go_wp2
            go_ret3
            exact ⟨by rw [HV.out]; rfl, Below.refl _ _⟩
          · have hfit := hide (Var.val_fits l k hlt (by omega) (by intro h; have := HX.out; rw [← this]; omega))
            have HG := hide hge
            have HS := hide hst
            clear hge hst
            have hnx : k = 9 → x.toNat ≤ 1 := by omega
            clear h9
            have t2 : decide ((x.toNat : Int) < 128) = true := by simp; omega
            have t2' : decide (128 ≤ (x.toNat : Int)) = false := by simp; omega
            have hT : (l.take (k + 1)).length = k + 1 := by rw [List.length_take]; omega
            have HT := hide hT
            clear hT
            by_cases hk9 : k = 9
            · have t3 : ((k : Int) == 9) = true := by simp; omega
              have t4 : 9 < l.length := by omega
              have t5 : decide ((1 : Int) < (x.toNat : Int)) = false := by simp; omega
              have hc9 : w.cell? ⟨b, off + 9, none⟩ = some (.int .u8 (x.toNat : Int)) := by rw [← hk9]; exact hc'
              clear hk9
              go_wp2_with fail
              go_loop [6, 7] (fun nv iv => (∃ m : Nat, iv = .int .i64 (-1) ∧ nv = .int .u64 m ∧ Hid (m = Var.val (l.take (k + 1)))) ∨ (∃ p m : Nat, p ≤ k ∧ iv = .int .i64 p ∧ nv = .int .u64 m ∧ Hid (m = Var.val ((l.take (k + 1)).drop (p + 1))))) (fun _ iv => (intOf iv + 1).toNat)
              case atStart => exact .inr ⟨k, 0, Nat.le_refl _, rfl, rfl, hide (by rw [List.drop_eq_nil_of_le (by rw [HT.out]; omega)]; rfl)⟩
              case round =>
                rcases hrel with ⟨m, rfl, rfl, hm⟩ | ⟨p, m, hp, rfl, rfl, hm⟩
                · go_wp2_with fail
                  have hle := hr.le
                  have hsl := cut_hi tyBytes (some ⟨b, off, none⟩) l.length c .i64 ((k : Int) + 1) (k + 1) (by omega) (by omega)
                  have hwr : IntKind.i64.wrap ((k : Int) + 1) = (k : Int) + 1 := IntWalk.i64_in _ ⟨by omega, by omega⟩
                  have hrT : Rd w B 1 (some ⟨b, off, none⟩) (k + 1) c (bytesV (l.take (k + 1))) := by have := hr.pre (hi := k + 1) (by omega); simpa [bytesV, List.map_take] using this
                  have hcv0 := run_str (P := Try.prog) w.drew Try.underlying54 Try.underlying5 Try.underlying9 hrT.drew
                  by_cases hz : x.toNat = 0 ∧ 0 < k
                  · have hne : (Var.put m == l.take (k + 1)) = false := beq_eq_false_iff_ne.2 (Var.put_ne_of_end (l.take (k + 1)) k HT.out hz.2 (by have h1 := HX.out; have h2 := hz.1; rw [h1] at h2; simpa [List.getD, hlt] using h2) m)
                    have hv : Var.get l = (0, 0, 31) := by rw [HG.out, HS.out, if_neg (by omega), if_neg (by omega), if_pos (.inr ⟨by have h1 := HX.out; have h2 := hz.1; rw [h1] at h2; simpa [List.getD, hlt] using h2, hz.2⟩)]
                    have HV := hide hv
                    clear hz hv
                    go_region_with (go_at_call 70; refine (refPut _ _ (by omega) (by have h1 := hfit.out; have h2 := hm.out; omega)).mono ?_; rintro e w1 ⟨v1, rfl, hown1, hb1⟩; rw [Int.toNat_natCast] at hown1; obtain ⟨A1, c1, rfl, hr1⟩ := Rd.of_own hown1; have hcv1 := run_str (P := Try.prog) w1 Try.underlying54 Try.underlying5 Try.underlying9 hr1; have hcv2 := run_str (P := Try.prog) w1 Try.underlying54 Try.underlying5 Try.underlying9 (hrT.drew.below' hb1 hB))
                    all_goals
                      go_wp2
                      go_ret3
                      exact ⟨by rw [HV.out]; rfl, below_of_drew hb1⟩
                  · have heq : Var.put m = l.take (k + 1) := by rw [hm.out]; have h3 := Var.put_val l (by rw [HS.out]; omega) (by rw [HS.out]; intro h4; apply hz; have h1 := HX.out; rw [h1]; exact ⟨by simpa [List.getD, hlt] using h4.1, h4.2⟩); rw [HS.out] at h3; exact h3
                    have hv : Var.get l = (m, k + 1, 0) := by
                      rw [HG.out, HS.out, if_neg (by omega), if_neg (by omega), if_neg ?_, hm.out]
                      have h1 := HX.out
                      rintro (⟨h4, h5⟩ | ⟨h4, h5⟩)
                      · have h6 := hnx h4
                        rw [h1] at h6
                        simp [List.getD, hlt] at h5
                        omega
                      · apply hz
                        rw [h1]
                        exact ⟨by simpa [List.getD, hlt] using h4, h5⟩
                    have HV := hide hv
                    have hqb : (Var.put m == l.take (k + 1)) = true := beq_iff_eq.2 heq
                    clear hz hv heq hnx
                    go_region_with (go_at_call 70; refine (refPut _ _ (by omega) (by have h1 := hfit.out; have h2 := hm.out; omega)).mono ?_; rintro e w1 ⟨v1, rfl, hown1, hb1⟩; rw [Int.toNat_natCast] at hown1; obtain ⟨A1, c1, rfl, hr1⟩ := Rd.of_own hown1; have hcv1 := run_str (P := Try.prog) w1 Try.underlying54 Try.underlying5 Try.underlying9 hr1; have hcv2 := run_str (P := Try.prog) w1 Try.underlying54 Try.underlying5 Try.underlying9 (hrT.drew.below' hb1 hB))
                    all_goals
                      go_wp2
                      go_ret3
                      exact ⟨by rw [HV.out]; rfl, below_of_drew hb1⟩
                · obtain ⟨b2, off2, e2, _, hc2⟩ := hr.cellAt (k := p) (by rw [bytesV_length]; omega)
                  obtain ⟨rfl, rfl⟩ : b = b2 ∧ off = off2 := by simpa using e2
                  obtain ⟨y, hy⟩ : ∃ y : UInt8, y = l[p]'(by omega) := ⟨_, rfl⟩
                  have hcp : w.cell? ⟨b, off + p, none⟩ = some (.int .u8 (y.toNat : Int)) := by rw [hc2, hy]; simp [bytesV, byteV]
                  have hst := Var.val_drop_step (l.take (k + 1)) p (by rw [HT.out]; omega)
                  rw [List.getElem_take, ← hy, ← hm.out] at hst
                  have hle := Var.val_drop_le (l.take (k + 1)) p
                  have hf := hfit.out
                  have ha : IntKind.u64.wrap (IntKind.u64.wrap ((m : Int) * 128) + (y.toNat : Int) % 128) = ((Var.val ((l.take (k + 1)).drop p) : Nat) : Int) := by
                    rw [IntWalk.u64_in ((m : Int) * 128) ⟨by omega, by omega⟩, IntWalk.u64_in _ ⟨by omega, by omega⟩]; omega
                  have hy256 := y.toNat_lt
                  clear hf hle hst e2 hc2 hy
                  go_wp2
                  go_round
                  case rel =>
                    rcases Nat.eq_zero_or_pos p with h0 | h0
                    · subst h0
                      exact .inl ⟨_, rfl, rfl, hide (by simp)⟩
                    · exact .inr ⟨p - 1, _, by omega, by go_num, rfl, hide (by rw [show p - 1 + 1 = p by omega])⟩
                  case measure => first | (simp [intOf]; done) | (simp [intOf]; omega)
            · have t3 : ((k : Int) == 9) = false := by simp; omega
              clear hk9
              go_wp2_with fail
              go_loop [6, 7] (fun nv iv => (∃ m : Nat, iv = .int .i64 (-1) ∧ nv = .int .u64 m ∧ Hid (m = Var.val (l.take (k + 1)))) ∨ (∃ p m : Nat, p ≤ k ∧ iv = .int .i64 p ∧ nv = .int .u64 m ∧ Hid (m = Var.val ((l.take (k + 1)).drop (p + 1))))) (fun _ iv => (intOf iv + 1).toNat)
              case atStart => exact .inr ⟨k, 0, Nat.le_refl _, rfl, rfl, hide (by rw [List.drop_eq_nil_of_le (by rw [HT.out]; omega)]; rfl)⟩
              case round =>
                rcases hrel with ⟨m, rfl, rfl, hm⟩ | ⟨p, m, hp, rfl, rfl, hm⟩
                · go_wp2_with fail
                  have hle := hr.le
                  have hsl := cut_hi tyBytes (some ⟨b, off, none⟩) l.length c .i64 ((k : Int) + 1) (k + 1) (by omega) (by omega)
                  have hwr : IntKind.i64.wrap ((k : Int) + 1) = (k : Int) + 1 := IntWalk.i64_in _ ⟨by omega, by omega⟩
                  have hrT : Rd w B 1 (some ⟨b, off, none⟩) (k + 1) c (bytesV (l.take (k + 1))) := by have := hr.pre (hi := k + 1) (by omega); simpa [bytesV, List.map_take] using this
                  have hcv0 := run_str (P := Try.prog) w.drew Try.underlying54 Try.underlying5 Try.underlying9 hrT.drew
                  by_cases hz : x.toNat = 0 ∧ 0 < k
                  · have hne : (Var.put m == l.take (k + 1)) = false := beq_eq_false_iff_ne.2 (Var.put_ne_of_end (l.take (k + 1)) k HT.out hz.2 (by have h1 := HX.out; have h2 := hz.1; rw [h1] at h2; simpa [List.getD, hlt] using h2) m)
                    have hv : Var.get l = (0, 0, 31) := by rw [HG.out, HS.out, if_neg (by omega), if_neg (by omega), if_pos (.inr ⟨by have h1 := HX.out; have h2 := hz.1; rw [h1] at h2; simpa [List.getD, hlt] using h2, hz.2⟩)]
                    have HV := hide hv
                    clear hz hv
                    go_region_with (go_at_call 70; refine (refPut _ _ (by omega) (by have h1 := hfit.out; have h2 := hm.out; omega)).mono ?_; rintro e w1 ⟨v1, rfl, hown1, hb1⟩; rw [Int.toNat_natCast] at hown1; obtain ⟨A1, c1, rfl, hr1⟩ := Rd.of_own hown1; have hcv1 := run_str (P := Try.prog) w1 Try.underlying54 Try.underlying5 Try.underlying9 hr1; have hcv2 := run_str (P := Try.prog) w1 Try.underlying54 Try.underlying5 Try.underlying9 (hrT.drew.below' hb1 hB))
                    all_goals
                      go_wp2
                      go_ret3
                      exact ⟨by rw [HV.out]; rfl, below_of_drew hb1⟩
                  · have heq : Var.put m = l.take (k + 1) := by rw [hm.out]; have h3 := Var.put_val l (by rw [HS.out]; omega) (by rw [HS.out]; intro h4; apply hz; have h1 := HX.out; rw [h1]; exact ⟨by simpa [List.getD, hlt] using h4.1, h4.2⟩); rw [HS.out] at h3; exact h3
                    have hv : Var.get l = (m, k + 1, 0) := by
                      rw [HG.out, HS.out, if_neg (by omega), if_neg (by omega), if_neg ?_, hm.out]
                      have h1 := HX.out
                      rintro (⟨h4, h5⟩ | ⟨h4, h5⟩)
                      · have h6 := hnx h4
                        rw [h1] at h6
                        simp [List.getD, hlt] at h5
                        omega
                      · apply hz
                        rw [h1]
                        exact ⟨by simpa [List.getD, hlt] using h4, h5⟩
                    have HV := hide hv
                    have hqb : (Var.put m == l.take (k + 1)) = true := beq_iff_eq.2 heq
                    clear hz hv heq hnx
                    go_region_with (go_at_call 70; refine (refPut _ _ (by omega) (by have h1 := hfit.out; have h2 := hm.out; omega)).mono ?_; rintro e w1 ⟨v1, rfl, hown1, hb1⟩; rw [Int.toNat_natCast] at hown1; obtain ⟨A1, c1, rfl, hr1⟩ := Rd.of_own hown1; have hcv1 := run_str (P := Try.prog) w1 Try.underlying54 Try.underlying5 Try.underlying9 hr1; have hcv2 := run_str (P := Try.prog) w1 Try.underlying54 Try.underlying5 Try.underlying9 (hrT.drew.below' hb1 hB))
                    all_goals
                      go_wp2
                      go_ret3
                      exact ⟨by rw [HV.out]; rfl, below_of_drew hb1⟩
                · obtain ⟨b2, off2, e2, _, hc2⟩ := hr.cellAt (k := p) (by rw [bytesV_length]; omega)
                  obtain ⟨rfl, rfl⟩ : b = b2 ∧ off = off2 := by simpa using e2
                  obtain ⟨y, hy⟩ : ∃ y : UInt8, y = l[p]'(by omega) := ⟨_, rfl⟩
                  have hcp : w.cell? ⟨b, off + p, none⟩ = some (.int .u8 (y.toNat : Int)) := by rw [hc2, hy]; simp [bytesV, byteV]
                  have hst := Var.val_drop_step (l.take (k + 1)) p (by rw [HT.out]; omega)
                  rw [List.getElem_take, ← hy, ← hm.out] at hst
                  have hle := Var.val_drop_le (l.take (k + 1)) p
                  have hf := hfit.out
                  have ha : IntKind.u64.wrap (IntKind.u64.wrap ((m : Int) * 128) + (y.toNat : Int) % 128) = ((Var.val ((l.take (k + 1)).drop p) : Nat) : Int) := by
                    rw [IntWalk.u64_in ((m : Int) * 128) ⟨by omega, by omega⟩, IntWalk.u64_in _ ⟨by omega, by omega⟩]; omega
                  have hy256 := y.toNat_lt
                  clear hf hle hst e2 hc2 hy
                  go_wp2
                  go_round
                  case rel =>
                    rcases Nat.eq_zero_or_pos p with h0 | h0
                    · subst h0
                      exact .inl ⟨_, rfl, rfl, hide (by simp)⟩
                    · exact .inr ⟨p - 1, _, by omega, by go_num, rfl, hide (by rw [show p - 1 + 1 = p by omega])⟩
                  case measure => first | (simp [intOf]; done) | (simp [intOf]; omega)
      · have hv : Var.get l = (0, 0, 31) := by rw [hge, if_pos (by omega)]
        have HV := hide hv
        obtain rfl : k = 10 := by omega
        clear hv hge hx hst
        go_wp2
        go_ret3
        exact ⟨by rw [HV.out]; rfl, Below.refl _ _⟩
    · have hL := Var.lead_le l
      obtain rfl : k = l.length := by omega
      by_cases h10 : l.length = 10
      · have hv : Var.get l = (0, 0, 31) := by rw [hge, if_pos (by omega)]
        have HV := hide hv
        have t1 : ((l.length : Int) == 10) = true := by simp; omega
        clear hv hge h10
        go_wp2
        go_ret3
        exact ⟨by rw [HV.out]; rfl, Below.refl _ _⟩
      · have hv : Var.get l = (0, 0, 30) := by rw [hge, if_neg (by omega), if_pos (by omega)]
        have HV := hide hv
        have t1 : ((l.length : Int) == 10) = false := by simp; omega
        clear hv hge
        by_cases h9 : l.length = 9
        · have t2 : ((l.length : Int) == 9) = true := by simp; omega
          have t3 : decide (9 < l.length) = false := by simp; omega
          clear h9
          go_wp2
          go_ret3
          exact ⟨by rw [HV.out]; rfl, Below.refl _ _⟩
        · have t2 : ((l.length : Int) == 9) = false := by simp; omega
          clear h9
          go_wp2
          go_ret3
          exact ⟨by rw [HV.out]; rfl, Below.refl _ _⟩
end Go.Proofs.Ytlccpchlclpnaaa
