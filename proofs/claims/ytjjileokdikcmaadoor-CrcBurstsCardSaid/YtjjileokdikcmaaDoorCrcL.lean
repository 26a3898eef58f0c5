/- THE WALKS of the reference's Seal and Open. -/
import Derived.Test.YtjjileokdikcmaaDoorCrcR
import Derived.Test.YtjjileokdikcmaaDoorAbs
namespace Go.Proofs.YtjjileokdikcmaaDoor
open Go.RowKit

/-- the first k bytes of C, the lowest first -/
def leN (C : Nat) : Nat → List UInt8
  | 0 => []
  | k + 1 => leN C k ++ [UInt8.ofNat (C / 256 ^ k)]
theorem leN_length (C : Nat) : ∀ k, (leN C k).length = k
  | 0 => rfl
  | k + 1 => by simp [leN, leN_length C k]
theorem leN_four (c : Crc.W) : leN c.toNat 4 = le4 c := by simp [leN, le4]

set_option maxRecDepth 100000 in
theorem refSeal (w : World) (B n c : Nat) (A : Option Addr) (l : List UInt8) (hr : Rd w B 1 A n c (bytesV l)) (hB : B ≤ w.heap.size) (hl : l.length ≤ 1000000) :
    Calls Tryd.prog 15 #[.slice A n c] w (RetBytes w (seal_ l)) := by
  obtain rfl : n = l.length := by have := hr.len; rw [bytesV_length] at this; omega
  have hr := hr.more hB
  clear hB
  go_enter Tryd.func15, Tryd.ntmps15
  go_wp2_with (at_builtin; refine wpList_app _ tyBytes rfl _ _ rfl w.heap.size _ 0 [] rfl (World.ownsRow_nil _ _ _ _) w.heap.size A _ c _ rfl hr (bytesV_one _) (by omega) (Nat.le_refl _) ?_; intro v2 w2 hown2 hg2 _; simp only [Nat.zero_add, List.nil_append] at hown2; have hb2 := below_app (Below.refl w.heap.size w) (Nat.le_refl _) (World.ownsRow_nil w w.heap.size 5 1) hg2 (Nat.le_refl _))
  go_wp2_with fail
  refine (refMore w2 0 _ _ _ A l ((hr.below hb2).more hb2.size)).mono ?_
  rintro e w3 ⟨rfl, rfl⟩
  obtain ⟨C, hC⟩ : ∃ C : Nat, C = (Crc.more 0 l).toNat := ⟨_, rfl⟩
  have hq : C < 4294967296 := by rw [hC]; exact word_lt _
  rw [← hC]
  have HC := hide hC
  have HQ := hide hq
  clear hC hg2 hq
  go_wp2_with fail
  go_loopw [3, 4, 5] (fun bv sv iv wr => ∃ k : Nat, k ≤ 4 ∧ iv = .int .i64 k ∧ sv = .int .u32 ((C / 256 ^ k : Nat) : Int) ∧ wr.ownsRow w.heap.size 5 1 bv (l ++ leN C k).length (bytesV (l ++ leN C k)) ∧ Below w.heap.size w wr) (fun _ _ iv _ => 4 - (intOf iv).toNat)
  case atStart => exact ⟨0, Nat.zero_le _, rfl, by simp, by simpa [leN] using hown2, hb2⟩
  case round =>
    obtain ⟨k, hk, rfl, rfl, hown, hbr⟩ := hrel
    by_cases hlt : k < 4
    · obtain ⟨D, hD⟩ : ∃ D : Nat, D = C / 256 ^ k := ⟨_, rfl⟩
      have hD2 : C / 256 ^ (k + 1) = D / 256 := by rw [Nat.pow_succ, ← Nat.div_div_eq_div_mul, ← hD]
      have hD3 : D < 4294967296 := by rw [hD]; exact Nat.lt_of_le_of_lt (Nat.div_le_self _ _) HQ.out
      have hst := hide (show l ++ leN C (k + 1) = (l ++ leN C k) ++ [UInt8.ofNat D] by rw [leN, ← hD, List.append_assoc])
      obtain ⟨L, hL⟩ : ∃ L, L = l ++ leN C k := ⟨_, rfl⟩
      have hlen : L.length = l.length + k := by rw [hL, List.length_append, leN_length]
      rw [← hL] at hst hown
      rw [← hD]
      have HD := hide hD2
      clear hD hD2 hL
      go_wp2_with (at_builtin; refine wpList_app _ tyBytes rfl _ _ rfl w.heap.size _ _ _ rfl (hown.alloc _) (wr.heap.size + 1) _ 1 1 _ rfl (Rd.lit wr 5 _ rfl (by decide)) ?h1 ?h2 ?h3 ?_)
      case h1 => rfl
      case h2 => omega
      case h3 => have := hbr.size; simp; omega
      intro v3 w3 hown3 hg3 _
      have hb3 := below_app (hbr.alloc hbr.size _) (Nat.le_refl _) (hown.alloc _) hg3 (by have := hbr.size; simp; omega)
      have e1 : bytesV L ++ #[Value.int .u8 ((D : Int) % 256)].toList = bytesV (L ++ [UInt8.ofNat D]) := by
        rw [bytesV_append]
        congr 1
      rw [e1] at hown3
      clear hg3 hown e1
      go_wp2_with fail
      go_roundw
      case rel => exact ⟨k + 1, by omega, by go_num, by rw [HD.out]; go_num, by rw [hst.out, List.length_append, hlen]; exact hown3, hb3⟩
      case measure => simp [intOf]; omega
    · obtain rfl : k = 4 := by omega
      go_wp2_with fail
      go_ret
      have e2 : l ++ leN C 4 = seal_ l := by rw [HC.out, leN_four]; rfl
      rw [e2] at hown
      exact ⟨_, rfl, hown, hbr⟩


set_option maxRecDepth 100000 in
theorem refOpen (w : World) (n c : Nat) (A : Option Addr) (l : List UInt8) (hr : Rd w w.heap.size 1 A n c (bytesV l)) (hl : l.length ≤ 1000000) :
    Calls Tryd.prog 14 #[.slice A n c] w fun e w' => Below w.heap.size w w' ∧
      ((∃ t, open_ l = some t ∧ e = .returned (.tuple #[.slice A t.length c, .bool true]) ∧ Rd w w.heap.size 1 A t.length c (bytesV t)) ∨
       (open_ l = none ∧ e = .returned (.tuple #[.slice none 0 0, .bool false]))) := by
  obtain rfl : n = l.length := by have := hr.len; rw [bytesV_length] at this; omega
  have hpos := hr.le
  by_cases h4 : 4 ≤ l.length
  · obtain ⟨m, hm⟩ : ∃ m, m = l.length - 4 := ⟨_, rfl⟩
    have hm' : IntKind.i64.wrap ((l.length : Int) - 4) = (m : Int) := by rw [IntWalk.i64_in _ ⟨by omega, by omega⟩]; omega
    have hm'' : (l.length : Int) - 4 = (m : Int) := by omega
    have t0 : decide ((l.length : Int) < 4) = false := by simp; omega
    have hle := hr.le
    have hsl := cut_hi (P := Tryd.prog) tyBytes A l.length c .i64 (m : Int) m rfl (by omega)
    have hrm : Rd w w.heap.size 1 A m c (bytesV (l.take m)) := by have := hr.pre (hi := m) (by omega); simpa [bytesV, List.map_take] using this
    have hml : (l.take m).length = m := by rw [List.length_take]; omega
    have HM := hide hm
    have HH4 := hide h4
    have hm1 : m ≤ 1000000 := by omega
    clear hm h4
    go_enter Tryd.func14, Tryd.ntmps14
    go_wp2_with fail
    refine wp_region_abs ext_grow (by kernel_rfl) (by kernel_rfl) ?_
    simp only [List.map_cons, List.map_nil]
    refine wpA_value ext_grow ?_ (fun _ _ h => by cases h) rfl rfl ?_ ?_
    rotate_left 1
    · intro w' hw' C hC
      go_simp
      try go_bits
      exact hC
    simp only [putS, List.set_cons_succ, List.set_cons_zero]
    refine wpA_value ext_grow ?_ (fun _ _ h => by cases h) rfl rfl ?_ ?_
    rotate_left 1
    · intro w' hw' C hC
      go_simp
      try go_bits
      exact hC
    simp only [putS, List.set_cons_succ, List.set_cons_zero]
    refine wpA_value ext_grow ?_ (fun _ _ h => by cases h) rfl rfl ?_ ?_
    rotate_left 1
    · intro w' hw' C hC
      go_simp
      try go_bits
      exact hC
    simp only [putS, List.set_cons_succ, List.set_cons_zero]
    refine wpA_value ext_grow ?_ (fun _ _ h => by cases h) rfl rfl ?_ ?_
    rotate_left 1
    · intro w' hw' C hC
      go_simp
      try go_bits
      exact hC
    simp only [putS, List.set_cons_succ, List.set_cons_zero]
    refine wpA_value ext_grow ?_ (fun _ _ h => by cases h) rfl rfl ?_ ?_
    rotate_left 1
    · intro w' hw' C hC
      go_simp
      try go_bits
      exact hC
    simp only [putS, List.set_cons_succ, List.set_cons_zero]
    refine wpA_value ext_grow ?_ (fun _ _ h => by cases h) rfl rfl ?_ ?_
    rotate_left 1
    · intro w' hw' C hC
      go_simp
      try go_bits
      exact hC
    simp only [putS, List.set_cons_succ, List.set_cons_zero]
    refine wpA_value ext_grow ?_ (fun _ _ h => by cases h) rfl rfl ?_ ?_
    rotate_left 1
    · intro w' hw' C hC
      go_simp
      try go_bits
      exact hC
    simp only [putS, List.set_cons_succ, List.set_cons_zero]
    refine wpA_value ext_grow ?_ (fun _ _ h => by cases h) rfl rfl ?_ ?_
    rotate_left 1
    · intro w' hw' C hC
      go_simp
      try go_bits
      exact hC
    simp only [putS, List.set_cons_succ, List.set_cons_zero]
    refine wpA_value ext_grow ?_ (fun _ _ h => by cases h) rfl rfl ?_ ?_
    rotate_left 1
    · intro w' hw' C hC
      go_simp
      try go_bits
      exact hC
    simp only [putS, List.set_cons_succ, List.set_cons_zero]
    refine wpA_known (Slot.has (BytesR (seal_ (l.take m)))) (fun _ _ h => by cases h) rfl rfl (mono_bytes _) (fun w' hw' => ?_) ?_
    · go_simp
      exact ⟨Below.refl _ _, (refSeal _ w.heap.size _ c A (l.take m) (hrm.below' (below_of_drew hw') (Nat.le_refl _)) (below_of_drew hw').size (by omega)).mono fun e w'' h => by obtain ⟨v, h1, h2, h3⟩ := h; exact bytes_ret h1 h2 h3⟩
    simp only [putS, List.set_cons_succ, List.set_cons_zero]
    refine wpA_str 13 (_) Tryd.underlying23 Tryd.underlying5 Tryd.underlying9 rfl rfl (by simp) rfl rfl (fun _ => rfl) ?_
    simp only [putS, List.set_cons_succ, List.set_cons_zero]
    refine wpA_value ext_grow ?_ (fun _ _ h => by cases h) rfl rfl ?_ ?_
    rotate_left 1
    · intro w' hw' C hC
      go_simp
      try go_bits
      exact hC
    simp only [putS, List.set_cons_succ, List.set_cons_zero]
    refine wpA_value ext_grow ?_ (fun _ _ h => by cases h) rfl rfl ?_ ?_
    rotate_left 1
    · intro w' hw' C hC
      have hcv := run_str (P := Tryd.prog) w' Tryd.underlying23 Tryd.underlying5 Tryd.underlying9 (hr.below' (below_of_drew hw') (Nat.le_refl _))
      go_simp
      exact hC
    simp only [putS, List.set_cons_succ, List.set_cons_zero]
    refine wpA_value ext_grow ?_ (fun _ _ h => by cases h) rfl rfl ?_ ?_
    rotate_left 1
    · intro w' hw' C hC
      go_simp
      try go_bits
      exact hC
    simp only [putS, List.set_cons_succ, List.set_cons_zero]
    refine wpA_value ext_grow ?_ (fun _ _ h => by cases h) rfl rfl ?_ ?_
    rotate_left 1
    · intro w' hw' C hC
      go_simp
      try go_bits
      exact hC
    simp only [putS, List.set_cons_succ, List.set_cons_zero]
    intro w' hw'
    simp only [openS]
    intro vv hvv
    clear hm' hvv
    by_cases heq : seal_ (l.take m) = l
    · have t1 : (seal_ (l.take m) == l) = true := beq_iff_eq.2 heq
      have ho : open_ l = some (l.take m) := by unfold open_; rw [← HM.out, if_pos ⟨HH4.out, heq⟩]
      have HO := hide ho
      simp only [t1, Bool.not_true, Bool.not_false]
      clear heq ho t1
      go_wp2
      go_ret2
      exact ⟨below_of_drew hw', .inl ⟨_, HO.out, by rw [hml]; rfl, by rw [hml]; exact hrm⟩⟩
    · have t1 : (seal_ (l.take m) == l) = false := beq_eq_false_iff_ne.2 heq
      have ho : open_ l = none := by unfold open_; rw [← HM.out, if_neg (fun h => heq h.2)]
      have HO := hide ho
      simp only [t1, Bool.not_true, Bool.not_false]
      clear heq ho t1
      go_wp2
      go_ret2
      exact ⟨below_of_drew hw', .inr ⟨HO.out, rfl⟩⟩
  · have ho : open_ l = none := by unfold open_; rw [if_neg (fun h => h4 h.1)]
    have HO := hide ho
    have t0 : decide ((l.length : Int) < 4) = true := by simp; omega
    clear h4 ho
    go_enter Tryd.func14, Tryd.ntmps14
    go_wp2_with fail
    refine wp_region_abs ext_grow (by kernel_rfl) (by kernel_rfl) ?_
    simp only [List.map_cons, List.map_nil]
    refine wpA_value ext_grow ?_ (fun _ _ h => by cases h) rfl rfl ?_ ?_
    rotate_left 1
    · intro w' hw' C hC
      go_simp
      try go_bits
      exact hC
    simp only [putS, List.set_cons_succ, List.set_cons_zero]
    refine wpA_value ext_grow ?_ (fun _ _ h => by cases h) rfl rfl ?_ ?_
    rotate_left 1
    · intro w' hw' C hC
      go_simp
      try go_bits
      exact hC
    simp only [putS, List.set_cons_succ, List.set_cons_zero]
    refine wpA_value ext_grow ?_ (fun _ _ h => by cases h) rfl rfl ?_ ?_
    rotate_left 1
    · intro w' hw' C hC
      go_simp
      try go_bits
      exact hC
    simp only [putS, List.set_cons_succ, List.set_cons_zero]
    refine wpA_value ext_grow ?_ (fun _ _ h => by cases h) rfl rfl ?_ ?_
    rotate_left 1
    · intro w' hw' C hC
      go_simp
      try go_bits
      exact hC
    simp only [putS, List.set_cons_succ, List.set_cons_zero]
    refine wpA_skip rfl rfl ?_
    simp only [putS, List.set_cons_succ, List.set_cons_zero]
    refine wpA_skip rfl rfl ?_
    simp only [putS, List.set_cons_succ, List.set_cons_zero]
    refine wpA_skip rfl rfl ?_
    simp only [putS, List.set_cons_succ, List.set_cons_zero]
    refine wpA_skip rfl rfl ?_
    simp only [putS, List.set_cons_succ, List.set_cons_zero]
    refine wpA_skip rfl rfl ?_
    simp only [putS, List.set_cons_succ, List.set_cons_zero]
    refine wpA_skip rfl rfl ?_
    simp only [putS, List.set_cons_succ, List.set_cons_zero]
    refine wpA_skip rfl rfl ?_
    simp only [putS, List.set_cons_succ, List.set_cons_zero]
    refine wpA_skip rfl rfl ?_
    simp only [putS, List.set_cons_succ, List.set_cons_zero]
    refine wpA_skip rfl rfl ?_
    simp only [putS, List.set_cons_succ, List.set_cons_zero]
    refine wpA_skip rfl rfl ?_
    simp only [putS, List.set_cons_succ, List.set_cons_zero]
    refine wpA_value ext_grow ?_ (fun _ _ h => by cases h) rfl rfl ?_ ?_
    rotate_left 1
    · intro w' hw' C hC
      go_simp
      try go_bits
      exact hC
    simp only [putS, List.set_cons_succ, List.set_cons_zero]
    intro w' hw'
    simp only [openS]
    go_wp2
    go_ret2
    exact ⟨below_of_drew hw', .inr ⟨HO.out, rfl⟩⟩
end Go.Proofs.YtjjileokdikcmaaDoor
