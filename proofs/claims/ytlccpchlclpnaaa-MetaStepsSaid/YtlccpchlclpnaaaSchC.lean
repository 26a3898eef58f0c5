/- THE WALK of the document's check of a schema. No statement of the seat is proved here; no condition. -/
import Derived.Test.YtlccpchlclpnaaaSchW
import Derived.Test.YtlccpchlclpnaaaAbs
namespace Go.Proofs.Ytlccpchlclpnaaa
open Go.RowKit

theorem below_dN {B : Nat} {a w : World} (h : Below B a w) (n : Nat) : Below B a (w.drewN n) := ⟨h.os, h.tape, h.output, h.size, h.block⟩
theorem tyFields : STy Try.prog 23 96 4 32 (.agg #[.int .u32 0, .string ByteArray.empty, .int .u8 0, .bool false]) := ⟨Try.underlying23, by kernel_rfl, rfl, by decide, by decide⟩
theorem fdsV_take (l : List Fd) (k : Nat) : (fdsV l).take (k * 4) = fdsV (l.take k) := by
  induction l generalizing k with
  | nil => simp [fdsV]
  | cons f l ih =>
    cases k with
    | zero => simp [fdsV]
    | succ k => rw [fdsV_cons, List.take_succ_cons, fdsV_cons, show (k + 1) * 4 = (fdV f).length + k * 4 by rw [fdV_length]; omega, List.take_length_add_append, ih]
set_option maxRecDepth 100000 in
set_option maxHeartbeats 2000000 in
theorem refCheck (w : World) (id : UInt32) (n c : Nat) (A : Option Addr) (l : List Fd) (hr : Rd w w.heap.size 4 A n c (fdsV l)) :
    Calls Try.prog 16 #[.agg #[.int .u32 (id.toNat : Int), .slice A n c]] w fun e w' => e = .returned (.int .i64 (check id l : Int)) ∧ Below w.heap.size w w' := by
  obtain rfl := hr.lenF
  have hidb := id.toNat_lt
  by_cases h0 : id.toNat < 1 ∨ l.length < 1 ∨ 8 < l.length
  · have e0 : check id l = 1 := by unfold check; rw [if_pos h0]
    rw [e0]
    have h0' : ((id.toNat : Int) == 0) = true ∨ (((id.toNat : Int) == 0) = false ∧ ((l.length : Int) == 0) = true) ∨ (((id.toNat : Int) == 0) = false ∧ ((l.length : Int) == 0) = false ∧ decide ((8 : Int) < (l.length : Int)) = true) := by
      by_cases q1 : id.toNat = 0
      · exact .inl (by rw [q1]; rfl)
      · have q2 : ((id.toNat : Int) == 0) = false := by rw [beq_eq_false_iff_ne]; omega
        by_cases q3 : l.length = 0
        · exact .inr (.inl ⟨q2, by rw [q3]; rfl⟩)
        · exact .inr (.inr ⟨q2, by rw [beq_eq_false_iff_ne]; omega, decide_eq_true (by omega)⟩)
    clear h0 e0
    rcases h0' with t1 | ⟨t1, t2⟩ | ⟨t1, t2, t3⟩
    all_goals
      go_enter Try.func16, Try.ntmps16
      go_wp2_with fail
      go_ret
      exact ⟨rfl, (Below.refl _ _).alloc (Nat.le_refl _) _⟩
  · have e0 : check id l = errFrom l l.length 0 := by unfold check; rw [if_neg h0]
    rw [e0]
    have t1 : ((id.toNat : Int) == 0) = false := by rw [beq_eq_false_iff_ne]; omega
    have t2 : ((l.length : Int) == 0) = false := by rw [beq_eq_false_iff_ne]; omega
    have t3 : decide ((8 : Int) < (l.length : Int)) = false := decide_eq_false (by omega)
    have hl8 : l.length ≤ 8 := by omega
    clear h0 e0
    go_enter Try.func16, Try.ntmps16
    go_wp2_with fail
    obtain ⟨w1, hw1⟩ : ∃ w1, w1 = w.alloc (.cells #[.int .u32 (id.toNat : Int), .slice A l.length c] 25) := ⟨_, rfl⟩
    have hb1 : Below w.heap.size w w1 := by rw [hw1]; exact (Below.refl _ _).alloc (Nat.le_refl _) _
    have hs1 : w.heap.size < w1.heap.size := by rw [hw1]; simp
    have c0 : w1.cell? ⟨w.heap.size, 0, none⟩ = some (.int .u32 (id.toNat : Int)) := by rw [hw1]; simp
    have c1 : w1.cell? ⟨w.heap.size, 1, none⟩ = some (.slice A l.length c) := by rw [hw1]; simp
    have hr1 := (hr.below hb1).more hb1.size
    rw [← hw1]
    clear hw1
    obtain ⟨bx, hbx⟩ : ∃ bx, bx = w.heap.size := ⟨_, rfl⟩
    rw [← hbx] at hs1 c0 c1 ⊢
    have HBX := hide hbx
    clear hbx
    go_loopw [3, 4] (fun iv _ wr => ∃ k : Nat, k ≤ l.length ∧ iv = .int .i64 (k : Int) ∧ Hid (errFrom l (l.length - k) k = errFrom l l.length 0) ∧ Below w1.heap.size w1 wr) (fun iv _ _ => l.length - (intOf iv).toNat)
    case atStart => exact ⟨0, Nat.zero_le _, rfl, hide rfl, Below.refl _ _⟩
    case round =>
      obtain ⟨k, hk, rfl, hf, hbr⟩ := hrel
      have cx1 := (hbr.cell (p := ⟨bx, 1, none⟩) hs1).trans c1
      have hrr := hr1.below hbr
      by_cases hlt : k < l.length
      · obtain ⟨b, off, rfl, hb, f0, f1, f2, f3⟩ := hrr.fd hlt
        generalize hff : l.getD k default = f at *
        have HF := hide hff
        clear hff
        go_wp2_with fail
        obtain ⟨w2, hw2⟩ : ∃ w2, w2 = wr.alloc (.cells #[.int .u32 (f.id.toNat : Int), .string f.name, .int .u8 (f.kind.toNat : Int), .bool f.need] 96) := ⟨_, rfl⟩
        rw [← hw2]
        have hb2 : Below w1.heap.size w1 w2 := by rw [hw2]; exact hbr.alloc hbr.size _
        have hsz2 : wr.heap.size < w2.heap.size := by rw [hw2]; simp
        obtain ⟨bf, hbf⟩ : ∃ bf, bf = wr.heap.size := ⟨_, rfl⟩
        have d0 : w2.cell? ⟨bf, 0, none⟩ = some (.int .u32 (f.id.toNat : Int)) := by rw [hw2, hbf]; simp
        have d1 : w2.cell? ⟨bf, 1, none⟩ = some (.string f.name) := by rw [hw2, hbf]; simp
        have d2 : w2.cell? ⟨bf, 2, none⟩ = some (.int .u8 (f.kind.toNat : Int)) := by rw [hw2, hbf]; simp
        have d3 : w2.cell? ⟨bf, 3, none⟩ = some (.bool f.need) := by rw [hw2, hbf]; simp
        rw [← hbf] at hsz2 ⊢
        have cx0 := (hb2.cell (p := ⟨bx, 0, none⟩) hs1).trans c0
        have cx1 := (hb2.cell (p := ⟨bx, 1, none⟩) hs1).trans c1
        have hrr := hr1.below hb2
        have HW2 := hide (And.intro hbf hw2)
        clear hbf hw2 f0 f1 f2 f3
        have hcase : (f.id.toNat = 0) ∨ (f.id.toNat ≠ 0 ∧ ∃ m pid : Nat, IntKind.i64.wrap ((k : Int) - 1) = (m : Int) ∧ m < l.length ∧ 0 < k ∧ w2.cell? ⟨b, off + m * 4, none⟩ = some (.int .u32 (pid : Int)) ∧ Hid (pid = wasId l k) ∧ f.id.toNat ≤ pid) ∨
            (f.id.toNat ≠ 0 ∧ k = 0) ∨ (f.id.toNat ≠ 0 ∧ ∃ m pid : Nat, IntKind.i64.wrap ((k : Int) - 1) = (m : Int) ∧ m < l.length ∧ 0 < k ∧ w2.cell? ⟨b, off + m * 4, none⟩ = some (.int .u32 (pid : Int)) ∧ Hid (pid = wasId l k) ∧ ¬ f.id.toNat ≤ pid) := by
          by_cases hz : f.id.toNat = 0
          · exact .inl hz
          · by_cases hk0 : k = 0
            · exact .inr (.inr (.inl ⟨hz, hk0⟩))
            · have z4 : k - 1 < l.length := by omega
              obtain ⟨b', off', e', hb', p0, p1, p2, p3⟩ := hrr.fd z4
              injection e' with e'
              injection e' with e1 e2 e3
              subst e1 e2
              have z3 : IntKind.i64.wrap ((k : Int) - 1) = ((k - 1 : Nat) : Int) := by rw [IntKind.wrap_i64]; omega
              have hw := (wasId_succ l (show 0 < k by omega) rfl).symm
              by_cases hle : f.id.toNat ≤ (l.getD (k - 1) default).id.toNat
              · exact .inr (.inl ⟨hz, _, _, z3, z4, by omega, p0, hide hw, hle⟩)
              · exact .inr (.inr (.inr ⟨hz, _, _, z3, z4, by omega, p0, hide hw, hle⟩))
        have hbx2 : bx < w2.heap.size := Nat.lt_of_lt_of_le hs1 hb2.size
        have hB2 : w1.heap.size ≤ w2.heap.size := hb2.size
        have hbw2 : Below w.heap.size w w2 := below_call hb1 hb1.size hb2
        have hkc : k ≤ c := Nat.le_trans (Nat.le_of_lt hlt) hrr.le
        rcases hcase with hz | ⟨hz, m, pid, z3, z4, z5, p0, hpid, hle⟩ | ⟨hz, hk0⟩ | ⟨hz, m, pid, z3, z4, z5, p0, hpid, hle⟩
        · have z1 : ((f.id.toNat : Int) == 0) = true := by rw [hz]; rfl
          have he := hide (hf.out.symm.trans (errFrom_at hlt (errAt_81 HF.out (by rw [hz]; exact Nat.zero_le _)) (by decide)))
          clear hz
          go_quiet (fail)
          go_wp2_with fail
          go_ret
          exact ⟨by rw [he.out]; rfl, below_dN hbw2 _⟩
        · have z1 : ((f.id.toNat : Int) == 0) = false := by rw [beq_eq_false_iff_ne]; omega
          have he := hide (hf.out.symm.trans (errFrom_at hlt (errAt_81 HF.out (by rw [← hpid.out]; exact hle)) (by decide)))
          clear hz
          go_quiet (fail)
          go_wp2_with fail
          go_ret
          exact ⟨by rw [he.out]; rfl, below_dN hbw2 _⟩
        all_goals
          have z1 : ((f.id.toNat : Int) == 0) = false := by rw [beq_eq_false_iff_ne]; omega
          have h81 : Hid (¬ f.id.toNat ≤ wasId l k) := hide (by first | (rw [← hpid.out]; exact hle) | (rw [hk0, wasId_0]; omega))
          clear hz
          go_quiet (fail)
          try clear hk0
          try clear z5
          obtain ⟨w3, hw3⟩ : ∃ w3, w3 = w2.drewN nq := ⟨_, rfl⟩
          rw [← hw3]
          have hb3 : Below w1.heap.size w1 w3 := by rw [hw3]; exact ⟨hb2.os, hb2.tape, hb2.output, hb2.size, hb2.block⟩
          have d1' : w3.cell? ⟨bf, 1, none⟩ = some (.string f.name) := by rw [hw3]; exact d1
          have d2' : w3.cell? ⟨bf, 2, none⟩ = some (.int .u8 (f.kind.toNat : Int)) := by rw [hw3]; exact d2
          have d3' : w3.cell? ⟨bf, 3, none⟩ = some (.bool f.need) := by rw [hw3]; exact d3
          have cx1' : w3.cell? ⟨bx, 1, none⟩ = some (.slice (some ⟨b, off, none⟩) l.length c) := by rw [hw3]; exact cx1
          have hrr' : Rd w3 w1.heap.size 4 (some ⟨b, off, none⟩) l.length c (fdsV l) := hr1.below hb3
          have hsz3' : bf < w3.heap.size := by rw [hw3]; exact hsz2
          clear hw3 d0 d1 d2 d3 cx0 cx1 hrr hb2 hsz2 hbx2 hB2 hbw2 HW2
          try clear p0
          have hsz3 : bf < w3.drew.heap.size := hsz3'
          have hbx3 : bx < w3.drew.heap.size := Nat.lt_of_lt_of_le hs1 hb3.size
          have hB3 : w1.heap.size ≤ w3.drew.heap.size := hb3.size
          go_wp2_with fail
          have hpre : ∀ w', Ext w3.drew w' → Rd w' w1.heap.size 4 (some ⟨b, off, none⟩) k c (fdsV (l.take k)) := fun w' hw' => by
            have := (hrr'.keep (w' := w') fun p hp => hw'.cell (Nat.lt_of_lt_of_le hp hB3)).pre (hi := k) (Nat.le_of_lt hlt)
            rwa [fdsV_take] at this
          have htl : (l.take k).length ≤ 1000000 := by rw [List.length_take]; omega
          obtain ⟨hv, hhas⟩ : ∃ hv, hv = hasName (l.take k) f.name := ⟨_, rfl⟩
          have hcall : ∀ w', Ext w3.drew w' → Calls Try.prog 57 #[.slice (some ⟨b, off, none⟩) k c, .string f.name] w' fun e w'' => ∃ v, e = .returned v ∧ Ext w' w'' ∧ (Slot.is (.bool hv)).holds v w'' := fun w' hw' =>
            (refHas w' _ k c _ (l.take k) (hpre w' hw') f.name htl).mono fun e w'' h => is_ret (by rw [h.1, hhas]) (h.2 ▸ Below.refl _ _)
          have HHAS := hide hhas
          clear hhas hpre htl
          cases hnm : named f.name with
          | false =>
            have he := hide (hf.out.symm.trans (errFrom_at hlt (errAt_80 HF.out h81.out (by rw [hnm]; rfl)) (by decide)))
            refine wp_region_abs ext_grow (by kernel_rfl) (by kernel_rfl) ?_
            simp only [List.map_cons, List.map_nil]
            refine wpA_value ext_grow ?_ (fun _ _ h => by cases h) rfl rfl ?_ ?_
            rotate_left 1
            · intro w' hw' C hC
              go_simp
              try go_bits
              exact hC
            simp only [putS, List.set_cons_succ, List.set_cons_zero]
            refine wpA_value ext_grow ?_ (fun _ _ h => by cases h) rfl rfl ?_ ?_
            rotate_left 1
            · intro w' hw' C hC
              have q := (hw'.cell (p := ⟨bf, 1, none⟩) hsz3).trans d1'
              go_simp
              try go_bits
              exact hC
            simp only [putS, List.set_cons_succ, List.set_cons_zero]
            refine wpA_known (.is (.bool false)) (fun _ _ h => by cases h) rfl rfl (mono_is _) (fun w' hw' => ?_) ?_
            · go_simp
              exact ⟨Below.refl _ _, (refNamed w' f.name).mono fun e w'' h => is_ret (by rw [h.1, hnm]) h.2⟩
            simp only [putS, List.set_cons_succ, List.set_cons_zero]
            refine wpA_value ext_grow ?_ (fun _ _ h => by cases h) rfl rfl ?_ ?_
            rotate_left 1
            · intro w' hw' C hC
              go_simp
              try go_bits
              exact hC
            simp only [putS, List.set_cons_succ, List.set_cons_zero]
            refine wpA_value ext_grow ?_ (fun _ _ h => by cases h) rfl rfl ?_ ?_
            rotate_left 1
            · intro w' hw' C hC
              go_simp
              try go_bits
              exact hC
            simp only [putS, List.set_cons_succ, List.set_cons_zero]
            refine wpA_skip rfl rfl ?_
            simp only [putS, List.set_cons_succ, List.set_cons_zero]
            refine wpA_skip rfl rfl ?_
            simp only [putS, List.set_cons_succ, List.set_cons_zero]
            refine wpA_skip rfl rfl ?_
            simp only [putS, List.set_cons_succ, List.set_cons_zero]
            refine wpA_skip rfl rfl ?_
            simp only [putS, List.set_cons_succ, List.set_cons_zero]
            refine wpA_skip rfl rfl ?_
            simp only [putS, List.set_cons_succ, List.set_cons_zero]
            refine wpA_skip rfl rfl ?_
            simp only [putS, List.set_cons_succ, List.set_cons_zero]
            refine wpA_skip rfl rfl ?_
            simp only [putS, List.set_cons_succ, List.set_cons_zero]
            refine wpA_value ext_grow ?_ (fun _ _ h => by cases h) rfl rfl ?_ ?_
            rotate_left 1
            · intro w' hw' C hC
              go_simp
              try go_bits
              exact hC
            simp only [putS, List.set_cons_succ, List.set_cons_zero]
            intro w4 hw4
            simp only [openS]
            go_wp2_with fail
            go_ret
            exact ⟨by rw [he.out]; rfl, (below_call hb1 hb1.size (hb3.trans (below_of_drew hw4 |>.mono hB3)))⟩
          | true =>
            refine wp_region_abs ext_grow (by kernel_rfl) (by kernel_rfl) ?_
            simp only [List.map_cons, List.map_nil]
            refine wpA_value ext_grow ?_ (fun _ _ h => by cases h) rfl rfl ?_ ?_
            rotate_left 1
            · intro w' hw' C hC
              go_simp
              try go_bits
              exact hC
            simp only [putS, List.set_cons_succ, List.set_cons_zero]
            refine wpA_value ext_grow ?_ (fun _ _ h => by cases h) rfl rfl ?_ ?_
            rotate_left 1
            · intro w' hw' C hC
              have q := (hw'.cell (p := ⟨bf, 1, none⟩) hsz3).trans d1'
              go_simp
              try go_bits
              exact hC
            simp only [putS, List.set_cons_succ, List.set_cons_zero]
            refine wpA_known (.is (.bool true)) (fun _ _ h => by cases h) rfl rfl (mono_is _) (fun w' hw' => ?_) ?_
            · go_simp
              exact ⟨Below.refl _ _, (refNamed w' f.name).mono fun e w'' h => is_ret (by rw [h.1, hnm]) h.2⟩
            simp only [putS, List.set_cons_succ, List.set_cons_zero]
            refine wpA_value ext_grow ?_ (fun _ _ h => by cases h) rfl rfl ?_ ?_
            rotate_left 1
            · intro w' hw' C hC
              go_simp
              try go_bits
              exact hC
            simp only [putS, List.set_cons_succ, List.set_cons_zero]
            refine wpA_value ext_grow ?_ (fun _ _ h => by cases h) rfl rfl ?_ ?_
            rotate_left 1
            · intro w' hw' C hC
              go_simp
              try go_bits
              exact hC
            simp only [putS, List.set_cons_succ, List.set_cons_zero]
            refine wpA_value ext_grow ?_ (fun _ _ h => by cases h) rfl rfl ?_ ?_
            rotate_left 1
            · intro w' hw' C hC
              go_simp
              try go_bits
              exact hC
            simp only [putS, List.set_cons_succ, List.set_cons_zero]
            refine wpA_value ext_grow ?_ (fun _ _ h => by cases h) rfl rfl ?_ ?_
            rotate_left 1
            · intro w' hw' C hC
              have q := (hw'.cell (p := ⟨bx, 1, none⟩) hbx3).trans cx1'
              go_simp
              try go_bits
              exact hC
            simp only [putS, List.set_cons_succ, List.set_cons_zero]
            refine wpA_value ext_grow ?_ (fun _ _ h => by cases h) rfl rfl ?_ ?_
            rotate_left 1
            · intro w' hw' C hC
              go_simp
              try go_bits
              exact hC
            simp only [putS, List.set_cons_succ, List.set_cons_zero]
            refine wpA_value ext_grow ?_ (fun _ _ h => by cases h) rfl rfl ?_ ?_
            rotate_left 1
            · intro w' hw' C hC
              have q := cut_hi tyFields (some ⟨b, off, none⟩) l.length c .i64 (k : Int) k rfl hkc w'
              go_simp
              try go_bits
              exact hC
            simp only [putS, List.set_cons_succ, List.set_cons_zero]
            refine wpA_value ext_grow ?_ (fun _ _ h => by cases h) rfl rfl ?_ ?_
            rotate_left 1
            · intro w' hw' C hC
              go_simp
              try go_bits
              exact hC
            simp only [putS, List.set_cons_succ, List.set_cons_zero]
            refine wpA_value ext_grow ?_ (fun _ _ h => by cases h) rfl rfl ?_ ?_
            rotate_left 1
            · intro w' hw' C hC
              have q := (hw'.cell (p := ⟨bf, 1, none⟩) hsz3).trans d1'
              go_simp
              try go_bits
              exact hC
            simp only [putS, List.set_cons_succ, List.set_cons_zero]
            refine wpA_known (.is (.bool hv)) (fun _ _ h => by cases h) rfl rfl (mono_is _) (fun w' hw' => ?_) ?_
            · go_simp
              exact ⟨Below.refl _ _, hcall w' hw'⟩
            simp only [putS, List.set_cons_succ, List.set_cons_zero]
            refine wpA_value ext_grow ?_ (fun _ _ h => by cases h) rfl rfl ?_ ?_
            rotate_left 1
            · intro w' hw' C hC
              go_simp
              try go_bits
              exact hC
            simp only [putS, List.set_cons_succ, List.set_cons_zero]
            intro w4 hw4
            simp only [openS]
            have hb4 : Below w1.heap.size w1 w4 := hb3.trans (below_of_drew hw4 |>.mono hB3)
            have d2 := (hw4.cell (p := ⟨bf, 2, none⟩) hsz3).trans d2'
            have d3 := (hw4.cell (p := ⟨bf, 3, none⟩) hsz3).trans d3'
            clear d1' d2' d3' cx1' hrr' hsz3' hsz3 hbx3 hB3 hw4 hb3
            have hhas := HHAS.out.symm
            cases hv with
            | true =>
              have he := hide (hf.out.symm.trans (errFrom_at hlt (errAt_80 HF.out h81.out (by rw [hnm, hhas]; rfl)) (by decide)))
              go_wp2_with fail
              go_ret
              exact ⟨by rw [he.out]; rfl, below_call hb1 hb1.size hb4⟩
            | false =>
              have h80 : Hid ((!named f.name || hasName (l.take k) f.name) = false) := hide (by rw [hnm, hhas]; rfl)
              clear hnm hhas
              obtain ⟨kn, hkn⟩ : ∃ kn, kn = f.kind.toNat := ⟨_, rfl⟩
              rw [← hkn] at d2
              have HKN := hide hkn
              clear hkn
              by_cases g1 : kn < 1 ∨ 3 < kn
              · have he := hide (hf.out.symm.trans (errFrom_at hlt (errAt_10 HF.out h81.out h80.out (by rw [← HKN.out]; exact g1)) (by decide)))
                go_wp2_with fail
                all_goals first
                  | (go_ret; exact ⟨by rw [he.out]; rfl, below_call hb1 hb1.size hb4⟩)
                  | (exfalso; omega)
              · have hg1 : ¬ (kn < 1 ∨ 3 < kn) := g1
                have s1 : decide ((kn : Int) < 1) = false := decide_eq_false (by omega)
                have s2 : decide ((3 : Int) < (kn : Int)) = false := decide_eq_false (by omega)
                have G1 := hide (show ¬ (f.kind.toNat < 1 ∨ 3 < f.kind.toNat) by rw [← HKN.out]; exact g1)
                clear g1 hg1
                generalize hnd : f.need = nd at *
                have HND := hide hnd
                clear hnd
                by_cases hk0 : k = 0
                · cases nd with
                  | false =>
                    have he := hide (hf.out.symm.trans (errFrom_at hlt (errAt_82 HF.out h81.out h80.out G1.out (by rw [HND.out, ← HKN.out]; simp [hk0])) (by decide)))
                    have hk1 : ((k : Int) == 0) = true := by rw [hk0]; rfl
                    go_wp2_with fail
                    go_ret
                    exact ⟨by rw [he.out]; rfl, below_call hb1 hb1.size hb4⟩
                  | true =>
                    by_cases g3 : kn = 2
                    · have he := hide (hf.out.symm.trans (errFrom_at hlt (errAt_82 HF.out h81.out h80.out G1.out (by rw [HND.out, ← HKN.out]; simp [hk0, g3])) (by decide)))
                      have hk1 : ((k : Int) == 0) = true := by rw [hk0]; rfl
                      have s3 : ((kn : Int) == 2) = true := by rw [g3]; rfl
                      go_wp2_with fail
                      go_ret
                      exact ⟨by rw [he.out]; rfl, below_call hb1 hb1.size hb4⟩
                    · have he := hide ((errFrom_next hlt (errAt_0 HF.out h81.out h80.out G1.out (by rw [HND.out, ← HKN.out]; simp [hk0, g3]))).symm.trans hf.out)
                      have hk1 : ((k : Int) == 0) = true := by rw [hk0]; rfl
                      have s3 : ((kn : Int) == 2) = false := by rw [beq_eq_false_iff_ne]; omega
                      go_wp2_with fail
                      go_roundw
                      case rel => exact ⟨k + 1, hlt, by go_num, he, hb4⟩
                      case measure => first | exact meas_sub k _ hlt | (simp [intOf, hk0]; omega)
                · have hk2 : 0 < k := by omega
                  have hk1 : ((k : Int) == 0) = false := by rw [beq_eq_false_iff_ne]; omega
                  cases nd with
                  | true =>
                    have he := hide (hf.out.symm.trans (errFrom_at hlt (errAt_82 HF.out h81.out h80.out G1.out (by rw [HND.out, ← HKN.out]; simp [hk0])) (by decide)))
                    go_wp2_with fail
                    go_ret
                    exact ⟨by rw [he.out]; rfl, below_call hb1 hb1.size hb4⟩
                  | false =>
                    have he := hide ((errFrom_next hlt (errAt_0 HF.out h81.out h80.out G1.out (by rw [HND.out, ← HKN.out]; simp [hk0]))).symm.trans hf.out)
                    go_wp2_with fail
                    go_roundw
                    case rel => exact ⟨k + 1, hlt, by go_num, he, hb4⟩
                    case measure => first | exact meas_sub k _ hlt | (simp [intOf, hk0]; omega)
      · obtain rfl : k = l.length := by omega
        have he := hf.out
        rw [Nat.sub_self] at he
        have HE := hide he.symm
        clear he
        go_wp2_with fail
        go_ret
        exact ⟨by rw [HE.out]; rfl, below_call hb1 hb1.size hbr⟩
end Go.Proofs.Ytlccpchlclpnaaa
