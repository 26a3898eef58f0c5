/- THE WALK of the program's check of a schema. No statement of the seat is proved here; no condition. -/
import Derived.Test.YtlccpchlclpnaaaSchF
namespace Go.Proofs.Ytlccpchlclpnaaa
open Go.RowKit

theorem schRight (w : World) (k : Nat) (hk : k < 256) : Calls Try.prog 54 #[.int .u8 (k : Int)] w fun e w' => e = .returned (.bool (decide (1 ≤ k ∧ k ≤ 3))) ∧ w = w' := by
  by_cases h1 : 1 ≤ k
  · have s1 : decide ((1 : Int) ≤ (k : Int)) = true := decide_eq_true (by omega)
    by_cases h2 : k ≤ 3
    · have s2 : decide ((k : Int) ≤ 3) = true := decide_eq_true (by omega)
      rw [decide_eq_true ⟨h1, h2⟩]
      go_enter Try.func54, Try.ntmps54
      go_wp2_with fail
      go_ret
      exact ⟨rfl, rfl⟩
    · have s2 : decide ((k : Int) ≤ 3) = false := decide_eq_false (by omega)
      rw [decide_eq_false (by omega)]
      go_enter Try.func54, Try.ntmps54
      go_wp2_with fail
      go_ret
      exact ⟨rfl, rfl⟩
  · have s1 : decide ((1 : Int) ≤ (k : Int)) = false := decide_eq_false (by omega)
    rw [decide_eq_false (by omega)]
    go_enter Try.func54, Try.ntmps54
    go_wp2_with fail
    go_ret
    exact ⟨rfl, rfl⟩
theorem wasId_lt (l : List Fd) (k : Nat) : wasId l k < 4294967296 := by unfold wasId; split <;> first | omega | exact UInt32.toNat_lt _
theorem wasId_next {l : List Fd} {k : Nat} : wasId l (k + 1) = (l.getD k default).id.toNat := by unfold wasId; simp

set_option maxRecDepth 100000 in
set_option maxHeartbeats 2000000 in
theorem schCheck (w : World) (id : UInt32) (n c : Nat) (A : Option Addr) (l : List Fd) (hr : Rd w w.heap.size 4 A n c (fdsV l)) :
    Calls Try.prog 15 #[.agg #[.int .u32 (id.toNat : Int), .slice A n c]] w fun e w' => e = .returned (.int .i64 (check id l : Int)) ∧ Below w.heap.size w w' := by
  obtain rfl := hr.lenF
  have hidb := id.toNat_lt
  by_cases h0 : id.toNat < 1 ∨ l.length < 1 ∨ 8 < l.length
  · have e0 : check id l = 1 := by unfold check; rw [if_pos h0]
    rw [e0]
    have h0' : decide ((id.toNat : Int) < 1) = true ∨ (decide ((id.toNat : Int) < 1) = false ∧ decide ((l.length : Int) < 1) = true) ∨ (decide ((id.toNat : Int) < 1) = false ∧ decide ((l.length : Int) < 1) = false ∧ decide ((8 : Int) < (l.length : Int)) = true) := by
      by_cases q1 : id.toNat = 0
      · exact .inl (by rw [q1]; rfl)
      · have q2 : decide ((id.toNat : Int) < 1) = false := decide_eq_false (by omega)
        by_cases q3 : l.length = 0
        · exact .inr (.inl ⟨q2, by rw [q3]; rfl⟩)
        · exact .inr (.inr ⟨q2, decide_eq_false (by omega), decide_eq_true (by omega)⟩)
    clear h0 e0
    rcases h0' with t1 | ⟨t1, t2⟩ | ⟨t1, t2, t3⟩
    all_goals
      go_enter Try.func15, Try.ntmps15
      go_wp2_with fail
      go_ret
      exact ⟨rfl, (Below.refl _ _).alloc (Nat.le_refl _) _⟩
  · have e0 : check id l = errFrom l l.length 0 := by unfold check; rw [if_neg h0]
    rw [e0]
    have t1 : decide ((id.toNat : Int) < 1) = false := decide_eq_false (by omega)
    have t2 : decide ((l.length : Int) < 1) = false := decide_eq_false (by omega)
    have t3 : decide ((8 : Int) < (l.length : Int)) = false := decide_eq_false (by omega)
    have hl8 : l.length ≤ 8 := by omega
    clear h0 e0
    go_enter Try.func15, Try.ntmps15
    go_wp2_with fail
    obtain ⟨w1, hw1⟩ : ∃ w1, w1 = w.alloc (.cells #[.int .u32 (id.toNat : Int), .slice A l.length c] 25) := ⟨_, rfl⟩
    have hb1 : Below w.heap.size w w1 := by rw [hw1]; exact (Below.refl _ _).alloc (Nat.le_refl _) _
    have hs1 : w.heap.size < w1.heap.size := by rw [hw1]; simp
    have c1 : w1.cell? ⟨w.heap.size, 1, none⟩ = some (.slice A l.length c) := by rw [hw1]; simp
    have hr1 := (hr.below hb1).more hb1.size
    rw [← hw1]
    clear hw1
    obtain ⟨bx, hbx⟩ : ∃ bx, bx = w.heap.size := ⟨_, rfl⟩
    rw [← hbx] at hs1 c1 ⊢
    have HBX := hide hbx
    clear hbx
    go_loopw [3, 24] (fun pv iv wr => ∃ k : Nat, k ≤ l.length ∧ pv = .int .u32 (wasId l k : Int) ∧ iv = .int .i64 (k : Int) ∧ Hid (errFrom l (l.length - k) k = errFrom l l.length 0) ∧ Below w1.heap.size w1 wr) (fun _ iv _ => l.length - (intOf iv).toNat)
    case atStart => exact ⟨0, Nat.zero_le _, rfl, rfl, hide rfl, Below.refl _ _⟩
    case round =>
      obtain ⟨k, hk, rfl, rfl, hf, hbr⟩ := hrel
      have hbW := hbr
      by_cases hlt : k < l.length
      · obtain ⟨b, off, rfl, hb, f0, f1, f2, f3⟩ := (hr1.below hbr).fd hlt
        generalize hff : l.getD k default = f at *
        have HF := hide hff
        clear hff
        generalize hws : wasId l k = pid at *
        have HWS := hide hws
        clear hws
        by_cases hle : f.id.toNat ≤ pid
        · have z1 : decide ((f.id.toNat : Int) ≤ (pid : Int)) = true := decide_eq_true (by omega)
          have he := hide (hf.out.symm.trans (errFrom_at hlt (errAt_81 HF.out (by rw [HWS.out]; exact hle)) (by decide)))
          go_wp2_with fail
          go_ret
          exact ⟨by rw [he.out]; rfl, below_call hb1 hb1.size (hbr.alloc hbr.size _)⟩
        · have h81 : Hid (¬ f.id.toNat ≤ wasId l k) := hide (by rw [HWS.out]; exact hle)
          go_wp2_with fail
          obtain ⟨w2, hw2⟩ : ∃ w2, w2 = wr.alloc (.cells #[.int .u32 (f.id.toNat : Int), .string f.name, .int .u8 (f.kind.toNat : Int), .bool f.need] 96) := ⟨_, rfl⟩
          rw [← hw2]
          have hb2 : Below w1.heap.size w1 w2 := by rw [hw2]; exact hbr.alloc hbr.size _
          have hsz2 : wr.heap.size < w2.heap.size := by rw [hw2]; simp
          obtain ⟨bf, hbf⟩ : ∃ bf, bf = wr.heap.size := ⟨_, rfl⟩
          have d0 : w2.cell? ⟨bf, 0, none⟩ = some (.int .u32 (f.id.toNat : Int)) := by rw [hw2, hbf]; simp
          have d1 : w2.cell? ⟨bf, 1, none⟩ = some (.string f.name) := by rw [hw2, hbf]; simp
          have d2 : w2.cell? ⟨bf, 2, none⟩ = some (.int .u8 (f.kind.toNat : Int)) := by rw [hw2, hbf]; simp
          have d3 : w2.cell? ⟨bf, 3, none⟩ = some (.bool f.need) := by rw [hw2, hbf]; simp
          rw [← hbf] at hsz2 ⊢
          clear hbf hw2 f0 f1 f2 f3
          refine (schNamed w2 f.name).mono ?_
          rintro e w3 ⟨rfl, hb3⟩
          have e0 := (hb3.cell (p := ⟨bf, 0, none⟩) hsz2).trans d0
          have e1 := (hb3.cell (p := ⟨bf, 1, none⟩) hsz2).trans d1
          have e2 := (hb3.cell (p := ⟨bf, 2, none⟩) hsz2).trans d2
          have e3 := (hb3.cell (p := ⟨bf, 3, none⟩) hsz2).trans d3
          have hsz3 : bf < w3.heap.size := Nat.lt_of_lt_of_le hsz2 hb3.size
          have hbW3 : Below w1.heap.size w1 w3 := below_call hb2 hb2.size hb3
          have cx1 := (hbW3.cell (p := ⟨bx, 1, none⟩) hs1).trans c1
          have hrr := hr1.below hbW3
          have hkc : k ≤ c := Nat.le_trans (Nat.le_of_lt hlt) hrr.le
          have hpre : Rd w3 w1.heap.size 4 (some ⟨b, off, none⟩) k c (fdsV (l.take k)) := by
            have := hrr.pre (hi := k) (Nat.le_of_lt hlt)
            rwa [fdsV_take] at this
          have htl : (l.take k).length ≤ 1000000 := by rw [List.length_take]; omega
          have hcon := containsF w3 _ k c _ (l.take k) hpre hbW3.size htl 58 #[.pointer (some ⟨bf, 0, none⟩)] _ enter58 (predName w3 bf 0 f.name hsz3 e1)
          obtain ⟨hv, hhas⟩ : ∃ hv, hv = hasName (l.take k) f.name := ⟨_, rfl⟩
          have hcon2 : Calls Try.prog 52 #[.slice (some ⟨b, off, none⟩) k c, .func (.func 58) #[] #[.pointer (some ⟨bf, 0, none⟩)]] w3 fun e w' => e = .returned (.bool hv) ∧ Below w3.heap.size w3 w' := by rw [hhas]; exact hcon
          have HHAS := hide hhas
          have kc := fun w' => cut_hi tyFields (some ⟨b, off, none⟩) l.length c .i64 (k : Int) k rfl hkc w'
          clear hhas hcon hpre htl d0 d1 d2 d3 hrr
          cases hnm : named f.name with
          | false =>
            have he := hide (hf.out.symm.trans (errFrom_at hlt (errAt_80 HF.out h81.out (by rw [hnm]; rfl)) (by decide)))
            clear hcon2 kc
            go_wp2_with fail
            go_ret
            exact ⟨by rw [he.out]; rfl, below_call hb1 hb1.size hbW3⟩
          | true =>
            go_wp2_with fail
            clear kc
            refine hcon2.mono ?_
            rintro e w4 ⟨rfl, hb4⟩
            have g0 := (hb4.cell (p := ⟨bf, 0, none⟩) hsz3).trans e0
            have g2 := (hb4.cell (p := ⟨bf, 2, none⟩) hsz3).trans e2
            have g3 := (hb4.cell (p := ⟨bf, 3, none⟩) hsz3).trans e3
            have hbW : Below w1.heap.size w1 w4 := below_call hbW3 hbW3.size hb4
            have hhas := HHAS.out.symm
            clear hcon2 e0 e1 e2 e3 cx1 hb4 hb3 hb2 hsz2 hsz3 hbW3 hkc
            cases hv with
            | true =>
              have he := hide (hf.out.symm.trans (errFrom_at hlt (errAt_80 HF.out h81.out (by rw [hnm, hhas]; rfl)) (by decide)))
              go_wp2_with fail
              go_ret
              exact ⟨by rw [he.out]; rfl, below_call hb1 hb1.size hbW⟩
            | false =>
              have h80 : Hid ((!named f.name || hasName (l.take k) f.name) = false) := hide (by rw [hnm, hhas]; rfl)
              clear hnm hhas
              obtain ⟨kn, hkn⟩ : ∃ kn, kn = f.kind.toNat := ⟨_, rfl⟩
              have hknb : kn < 256 := by rw [hkn]; exact f.kind.toNat_lt
              rw [← hkn] at g2
              have HKN := hide hkn
              clear hkn
              go_wp2_with fail
              refine (schRight w4 kn hknb).mono ?_
              rintro e w5 ⟨rfl, rfl⟩
              by_cases g1 : kn < 1 ∨ 3 < kn
              · rw [decide_eq_false (show ¬ (1 ≤ kn ∧ kn ≤ 3) by omega)]
                have he := hide (hf.out.symm.trans (errFrom_at hlt (errAt_10 HF.out h81.out h80.out (by rw [← HKN.out]; exact g1)) (by decide)))
                clear g1
                go_wp2_with fail
                go_ret
                exact ⟨by rw [he.out]; rfl, below_call hb1 hb1.size hbW⟩
              · rw [decide_eq_true (show 1 ≤ kn ∧ kn ≤ 3 by omega)]
                have G1 := hide (show ¬ (f.kind.toNat < 1 ∨ 3 < f.kind.toNat) by rw [← HKN.out]; exact g1)
                clear g1
                generalize hnd : f.need = nd at *
                have HND := hide hnd
                clear hnd
                have hidn := f.id.toNat_lt
                have hnx : Hid (wasId l (k + 1) = f.id.toNat) := hide (by rw [wasId_next, HF.out])
                have h81x := h81
                obtain ⟨fid, hfid⟩ : ∃ fid, fid = f.id.toNat := ⟨_, rfl⟩
                rw [← hfid] at g0 hnx hle hidn
                clear hfid
                by_cases hk0 : k = 0
                · have hk1 : ((k : Int) == 0) = true := by rw [hk0]; rfl
                  cases nd with
                  | false =>
                    have he := hide (hf.out.symm.trans (errFrom_at hlt (errAt_82 HF.out h81x.out h80.out G1.out (by rw [HND.out, ← HKN.out]; simp [hk0])) (by decide)))
                    go_wp2_with fail
                    go_ret
                    exact ⟨by rw [he.out]; rfl, below_call hb1 hb1.size hbW⟩
                  | true =>
                    by_cases g3x : kn = 2
                    · have he := hide (hf.out.symm.trans (errFrom_at hlt (errAt_82 HF.out h81x.out h80.out G1.out (by rw [HND.out, ← HKN.out]; simp [hk0, g3x])) (by decide)))
                      have s3 : ((kn : Int) == 2) = true := by rw [g3x]; rfl
                      go_wp2_with fail
                      go_ret
                      exact ⟨by rw [he.out]; rfl, below_call hb1 hb1.size hbW⟩
                    · have he := hide ((errFrom_next hlt (errAt_0 HF.out h81x.out h80.out G1.out (by rw [HND.out, ← HKN.out]; simp [hk0, g3x]))).symm.trans hf.out)
                      have s3 : ((kn : Int) == 2) = false := by rw [beq_eq_false_iff_ne]; omega
                      go_wp2_with fail
                      go_roundw
                      case rel => exact ⟨k + 1, hlt, by rw [hnx.out], by go_num, he, hbW⟩
                      case measure => first | exact meas_sub k _ hlt | (simp [intOf, hk0]; omega)
                · have hk2 : 0 < k := by omega
                  have hk1 : ((k : Int) == 0) = false := by rw [beq_eq_false_iff_ne]; omega
                  cases nd with
                  | true =>
                    have he := hide (hf.out.symm.trans (errFrom_at hlt (errAt_82 HF.out h81x.out h80.out G1.out (by rw [HND.out, ← HKN.out]; simp [hk0])) (by decide)))
                    go_wp2_with fail
                    go_ret
                    exact ⟨by rw [he.out]; rfl, below_call hb1 hb1.size hbW⟩
                  | false =>
                    have he := hide ((errFrom_next hlt (errAt_0 HF.out h81x.out h80.out G1.out (by rw [HND.out, ← HKN.out]; simp [hk0]))).symm.trans hf.out)
                    go_wp2_with fail
                    go_roundw
                    case rel => exact ⟨k + 1, hlt, by rw [hnx.out], by go_num, he, hbW⟩
                    case measure => first | exact meas_sub k _ hlt | (simp [intOf, hk0]; omega)
      · obtain rfl : k = l.length := by omega
        have he := hf.out
        rw [Nat.sub_self] at he
        have HE := hide he.symm
        clear he
        go_wp2_with fail
        go_ret
        exact ⟨by rw [HE.out]; rfl, below_call hb1 hb1.size hbr⟩
end Go.Proofs.Ytlccpchlclpnaaa
