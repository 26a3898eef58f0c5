/- WHAT SERVES THE TABLES' STATEMENTS, part 7: CrcR, CrcL, CrcP, Num, Unp. No statement of the seat is proved here. -/
import Derived.Test.YtlccpchlclpnaaaDoorD6
import Derived.Deep.CutRange
namespace Go.Proofs.YtlccpchlclpnaaaDoor

section
open Go.RowKit

def open_ (l : List UInt8) : Option (List UInt8) := if 4 ≤ l.length ∧ seal_ (l.take (l.length - 4)) = l then some (l.take (l.length - 4)) else none
theorem seal_length (l : List UInt8) : (seal_ l).length = l.length + 4 := by simp [seal_, le4]
theorem open_seal (l : List UInt8) : open_ (seal_ l) = some l := by
  have h1 := seal_length l
  have h2 : (seal_ l).take ((seal_ l).length - 4) = l := by rw [h1, Nat.add_sub_cancel]; unfold seal_; exact List.take_left
  unfold open_
  rw [h2, if_pos ⟨by omega, rfl⟩]
def RetOpen (w : World) (l : List UInt8) (e : Ending) (w' : World) : Prop :=
  (∃ t v, open_ l = some t ∧ e = .returned (.tuple #[v, .bool true]) ∧ w'.ownsRow w.heap.size 5 1 v t.length (bytesV t) ∧ Below w.heap.size w w') ∨
  (open_ l = none ∧ e = .returned (.tuple #[.slice none 0 0, .bool false]) ∧ Below w.heap.size w w')

set_option maxRecDepth 100000 in
theorem crcOpen (w : World) (n c : Nat) (A : Option Addr) (l : List UInt8) (hr : Rd w w.heap.size 1 A n c (bytesV l)) (ht : Table w) (hl : l.length ≤ 1000000) :
    Calls Tryd.prog 43 #[.slice A n c] w (RetOpen w l) := by
  obtain rfl : n = l.length := by have := hr.len; rw [bytesV_length] at this; omega
  have HT := hide ht
  have hpos := ht.pos
  clear ht
  by_cases h4 : 4 ≤ l.length
  · obtain ⟨m, hm⟩ : ∃ m, m = l.length - 4 := ⟨_, rfl⟩
    have hm' : (l.length : Int) - 4 = (m : Int) := by omega
    have hle := hr.le
    have hsl := cut_hi tyBytes A l.length c .i64 (m : Int) m rfl (by omega)
    have hrm : Rd w w.heap.size 1 A m c (bytesV (l.take m)) := by have := hr.pre (hi := m) (by omega); simpa [bytesV, List.map_take] using this
    have hml : (l.take m).length = m := by rw [List.length_take]; omega
    have HM := hide hm
    have hm1 : m ≤ 1000000 := by omega
    clear hm
    go_enter Tryd.func43, Tryd.ntmps43
    go_wp2_with fail
    refine (cloneBytes w _ _ c A _ hrm (bytesV_one _) (by omega) (Nat.le_refl _)).mono ?_
    rintro e w1 ⟨v1, rfl, hown1, hb1⟩
    obtain ⟨A1, c1, rfl, hr1⟩ := Rd.of_own hown1
    clear hm'
    go_wp2_with fail
    refine (crcSeal w1 _ c1 A1 _ hr1 (HT.out.below hb1 hpos) (by omega)).mono ?_
    rintro e w2 ⟨v2, rfl, hown2, hb2⟩
    have hb2' := below_call hb1 hb1.size hb2
    obtain ⟨A2, c2, rfl, hr2⟩ := Rd.of_own hown2
    go_wp2_with fail
    refine (equalBytes w2 w2.heap.size _ _ _ _ A2 A _ l hr2 ((hr.below hb2').more hb2'.size) (Nat.le_refl _)).mono ?_
    rintro e w3 ⟨rfl, hb3⟩
    have hb3' := below_call hb2' hb2'.size hb3
    have hown3 := own_below (own_below hown1 hb2) hb3
    by_cases heq : seal_ (l.take m) = l
    · have t1 : (seal_ (l.take m) == l) = true := beq_iff_eq.2 heq
      have ho : open_ l = some (l.take m) := by unfold open_; rw [← HM.out, if_pos ⟨h4, heq⟩]
      have HO := hide ho
      rw [t1]
      clear heq ho t1 hown1 hown2 hr1 hr2
      go_wp2_with fail
      go_ret2
      exact .inl ⟨_, _, HO.out, rfl, by rw [hml]; exact hown3, hb3'⟩
    · have t1 : (seal_ (l.take m) == l) = false := beq_eq_false_iff_ne.2 heq
      have ho : open_ l = none := by unfold open_; rw [← HM.out, if_neg (fun h => heq h.2)]
      have HO := hide ho
      rw [t1]
      clear heq ho t1 hown1 hown2 hr1 hr2
      go_wp2_with fail
      go_ret2
      exact .inr ⟨HO.out, rfl, hb3'⟩
  · have ho : open_ l = none := by unfold open_; rw [if_neg (fun h => h4 h.1)]
    have HO := hide ho
    have t0 : decide ((l.length : Int) < 4) = true := by simp; omega
    clear h4 ho
    go_enter Tryd.func43, Tryd.ntmps43
    go_wp2_with fail
    go_ret2
    exact .inr ⟨HO.out, rfl, Below.refl _ _⟩

/-- eight rounds of the reference -/
theorem ref_bit (a : Crc.W) : ∃ L S : Nat, L < 2 ∧ S < 4294967296 ∧ bits BinOp.and .u32 (a.toNat : Int) 1 = (L : Int) ∧ (a.toNat : Int) / 2 = (S : Int) ∧
    (L = 1 → bits BinOp.xor .u32 (S : Int) 3988292384 = ((Crc.bit a).toNat : Int)) ∧ (L = 0 → S = (Crc.bit a).toNat) := by
  have ha := word_lt a
  have hs : a.toNat / 2 = (a >>> 1).toNat := by rw [BitVec.toNat_ushiftRight, Nat.shiftRight_eq_div_pow]
  have hl : a.getLsbD 0 = decide (a.toNat % 2 = 1) := by rw [BitVec.getLsbD, Nat.testBit_zero]
  refine ⟨a.toNat % 2, a.toNat / 2, by omega, by omega, ?_, by omega, fun h1 => ?_, fun h0 => ?_⟩
  · have h := u32_and_nat a.toNat 1 ha (by omega)
    rw [nat_mask1] at h
    exact h
  · unfold Crc.bit
    rw [hl, hs]
    simp only [h1, decide_true, if_true]
    exact word_xor (a >>> 1) Crc.poly
  · unfold Crc.bit
    rw [hl, hs]
    simp [h0]

set_option maxRecDepth 100000 in
theorem refMore (w : World) (c0 : Crc.W) (B n c : Nat) (A : Option Addr) (l : List UInt8) (hr : Rd w B 1 A n c (bytesV l)) :
    Calls Tryd.prog 50 #[.int .u32 (c0.toNat : Int), .slice A n c] w fun e w' => e = .returned (.int .u32 ((Crc.more c0 l).toNat : Int)) ∧ w = w' := by
  obtain rfl : n = l.length := by have := hr.len; rw [bytesV_length] at this; omega
  have hmax : l.length ≤ 9223372036854775807 := by have h1 := hr.le; have h2 := hr.cap; unfold maxLen at h2; omega
  have hn0 : bits BinOp.xor .u32 (c0.toNat : Int) 4294967295 = ((~~~ c0).toNat : Int) := by
    have h := word_xor c0 (BitVec.allOnes 32)
    rw [BitVec.xor_allOnes] at h
    exact h
  obtain ⟨N0, hN0⟩ : ∃ N : Nat, N = (~~~ c0).toNat := ⟨_, rfl⟩
  rw [← hN0] at hn0
  have HN0 := hide hN0
  clear hN0
  go_enter Tryd.func50, Tryd.ntmps50
  go_wp2
  clear hn0
  go_loop [0, 5] (fun cv iv => ∃ (k C : Nat), k ≤ l.length ∧ iv = .int .i64 k ∧ cv = .int .u32 C ∧ Hid (C = (Crc.raw (~~~ c0) (l.take k)).toNat)) (fun _ iv => l.length - (intOf iv).toNat)
  case atStart => exact ⟨0, N0, Nat.zero_le _, rfl, rfl, hide HN0.out⟩
  case round =>
    obtain ⟨k, C, hk, rfl, rfl, hC⟩ := hrel
    by_cases hlt : k < l.length
    · obtain ⟨b, off, rfl, _, hc⟩ := hr.cellAt (k := k) (by rw [bytesV_length]; exact hlt)
      obtain ⟨x, hx⟩ : ∃ x : UInt8, x = l[k] := ⟨_, rfl⟩
      have hc' : w.cell? ⟨b, off + k, none⟩ = some (.int .u8 (x.toNat : Int)) := by rw [hc, hx]; simp [bytesV, byteV]
      have hst : Crc.raw (~~~ c0) (l.take (k + 1)) = Crc.byteS (Crc.raw (~~~ c0) (l.take k)) x := by
        rw [List.take_succ_eq_append_getElem hlt, Crc.raw_append, ← hx]; rfl
      have e1 := word_byte (Crc.raw (~~~ c0) (l.take k)) x
      obtain ⟨S, hS⟩ : ∃ S : Crc.W, S = Crc.raw (~~~ c0) (l.take k) ^^^ BitVec.ofNat 32 x.toNat := ⟨_, rfl⟩
      rw [← hC.out, ← hS] at e1
      have hst2 : Crc.raw (~~~ c0) (l.take (k + 1)) = Crc.bits 8 S := by rw [hst, hS]; rfl
      have HS2 := hide hst2
      obtain ⟨C1, hC1⟩ : ∃ C1 : Nat, C1 = S.toNat := ⟨_, rfl⟩
      rw [← hC1] at e1
      have HC1 := hide hC1
      have hx256 := x.toNat_lt
      clear hc hx hst hS hst2 hC1
      go_wp2
      clear e1
      go_loop [0, 6] (fun cv jv => ∃ (j C2 : Nat), j ≤ 8 ∧ jv = .int .i64 j ∧ cv = .int .u32 C2 ∧ Hid (C2 = (Crc.bits j S).toNat)) (fun _ jv => 8 - (intOf jv).toNat)
      case atStart => exact ⟨0, C1, by omega, rfl, rfl, hide HC1.out⟩
      case round =>
        obtain ⟨j, C2, hj, rfl, rfl, hC2⟩ := hrel
        by_cases hj8 : j < 8
        · have hs1 : Crc.bits (j + 1) S = Crc.bit (Crc.bits j S) := Crc.bits_add j 1 S
          obtain ⟨L, S2, g1, g2, g3, g4, g5, g6⟩ := ref_bit (Crc.bits j S)
          rw [← hs1] at g5 g6
          rw [← hC2.out] at g3 g4
          rcases (show L = 0 ∨ L = 1 by omega) with h0 | h0
          · have g7 := hide (g6 h0)
            have t1 : ((L : Int) == 1) = false := by rw [h0]; rfl
            clear g5 g6 hs1 h0
            go_wp2
            go_round
            case rel => exact ⟨j + 1, S2, by omega, by go_num, rfl, g7⟩
            case measure => simp [intOf]; omega
          · have g7 := g5 h0
            obtain ⟨C4, hC4⟩ : ∃ C4 : Nat, C4 = (Crc.bits (j + 1) S).toNat := ⟨_, rfl⟩
            rw [← hC4] at g7
            have HC4 := hide hC4
            have t1 : ((L : Int) == 1) = true := by rw [h0]; rfl
            clear g5 g6 hs1 h0 hC4
            go_wp2
            go_round
            case rel => exact ⟨j + 1, C4, by omega, by go_num, rfl, HC4⟩
            case measure => simp [intOf]; omega
        · obtain rfl : j = 8 := by omega
          go_wp2
          go_round
          case rel => exact ⟨k + 1, C2, by omega, by go_num, rfl, hide (by rw [HS2.out]; exact hC2.out)⟩
          case measure => simp [intOf]; omega
    · obtain rfl : k = l.length := by omega
      have hfin : bits BinOp.xor .u32 ((Crc.raw (~~~ c0) l).toNat : Int) 4294967295 = ((~~~ (Crc.raw (~~~ c0) l)).toNat : Int) := by
        have h := word_xor (Crc.raw (~~~ c0) l) (BitVec.allOnes 32)
        rw [BitVec.xor_allOnes] at h
        exact h
      have hC' := hC.out
      rw [List.take_length] at hC'
      rw [← hC'] at hfin
      have HF := hide hfin
      clear hfin hC'
      go_wp2
      go_ret
      refine ⟨?_, rfl⟩
      show Ending.returned (.int .u32 (bits BinOp.xor .u32 (C : Int) 4294967295)) = _
      rw [HF.out]
      rfl
end

section
open Go.RowKit

/-- the first k bytes of C, the lowest first -/
def leN (C : Nat) : Nat → List UInt8
  | 0 => []
  | k + 1 => leN C k ++ [UInt8.ofNat (C / 256 ^ k)]
theorem leN_length (C : Nat) : ∀ k, (leN C k).length = k
  | 0 => rfl
  | k + 1 => by simp [leN, leN_length C k]
theorem leN_four (c : Crc.W) : leN c.toNat 4 = le4 c := by simp [leN, le4]

set_option maxRecDepth 100000 in
theorem refSeal (w : World) (B n c : Nat) (A : Option Addr) (l : List UInt8) (hr : Rd w B 1 A n c (bytesV l)) (hB : B ≤ w.heap.size) (hl : l.length ≤ 1000000) :
    Calls Tryd.prog 19 #[.slice A n c] w (RetBytes w (seal_ l)) := by
  obtain rfl : n = l.length := by have := hr.len; rw [bytesV_length] at this; omega
  have hr := hr.more hB
  clear hB
  go_enter Tryd.func19, Tryd.ntmps19
  go_wp2_with (at_builtin; refine wpList_app _ tyBytes rfl _ _ rfl w.heap.size _ 0 [] rfl (World.ownsRow_nil _ _ _ _) w.heap.size A _ c _ rfl hr (bytesV_one _) (by omega) (Nat.le_refl _) ?_; intro v2 w2 hown2 hg2 _; simp only [Nat.zero_add, List.nil_append] at hown2; have hb2 := below_app (Below.refl w.heap.size w) (Nat.le_refl _) (World.ownsRow_nil w w.heap.size 5 1) hg2 (Nat.le_refl _))
  go_wp2_with fail
  refine (refMore w2 0 _ _ _ A l ((hr.below hb2).more hb2.size)).mono ?_
  rintro e w3 ⟨rfl, rfl⟩
  obtain ⟨C, hC⟩ : ∃ C : Nat, C = (Crc.more 0 l).toNat := ⟨_, rfl⟩
  have hq : C < 4294967296 := by rw [hC]; exact word_lt _
  rw [← hC]
  have HC := hide hC
  have HQ := hide hq
  clear hC hg2 hq
  go_wp2_with fail
  go_loopw [3, 4, 5] (fun bv sv iv wr => ∃ k : Nat, k ≤ 4 ∧ iv = .int .i64 k ∧ sv = .int .u32 ((C / 256 ^ k : Nat) : Int) ∧ wr.ownsRow w.heap.size 5 1 bv (l ++ leN C k).length (bytesV (l ++ leN C k)) ∧ Below w.heap.size w wr) (fun _ _ iv _ => 4 - (intOf iv).toNat)
  case atStart => exact ⟨0, Nat.zero_le _, rfl, by simp, by simpa [leN] using hown2, hb2⟩
  case round =>
    obtain ⟨k, hk, rfl, rfl, hown, hbr⟩ := hrel
    by_cases hlt : k < 4
    · obtain ⟨D, hD⟩ : ∃ D : Nat, D = C / 256 ^ k := ⟨_, rfl⟩
      have hD2 : C / 256 ^ (k + 1) = D / 256 := by rw [Nat.pow_succ, ← Nat.div_div_eq_div_mul, ← hD]
      have hD3 : D < 4294967296 := by rw [hD]; exact Nat.lt_of_le_of_lt (Nat.div_le_self _ _) HQ.out
      have hst := hide (show l ++ leN C (k + 1) = (l ++ leN C k) ++ [UInt8.ofNat D] by rw [leN, ← hD, List.append_assoc])
      obtain ⟨L, hL⟩ : ∃ L, L = l ++ leN C k := ⟨_, rfl⟩
      have hlen : L.length = l.length + k := by rw [hL, List.length_append, leN_length]
      rw [← hL] at hst hown
      rw [← hD]
      have HD := hide hD2
      clear hD hD2 hL
      go_wp2_with (at_builtin; refine wpList_app _ tyBytes rfl _ _ rfl w.heap.size _ _ _ rfl (hown.alloc _) (wr.heap.size + 1) _ 1 1 _ rfl (Rd.lit wr 5 _ rfl (by decide)) ?h1 ?h2 ?h3 ?_)
      case h1 => rfl
      case h2 => omega
      case h3 => have := hbr.size; simp; omega
      intro v3 w3 hown3 hg3 _
      have hb3 := below_app (hbr.alloc hbr.size _) (Nat.le_refl _) (hown.alloc _) hg3 (by have := hbr.size; simp; omega)
      have e1 : bytesV L ++ #[Value.int .u8 ((D : Int) % 256)].toList = bytesV (L ++ [UInt8.ofNat D]) := by
        rw [bytesV_append]
        congr 1
      rw [e1] at hown3
      clear hg3 hown e1
      go_wp2_with fail
      go_roundw
      case rel => exact ⟨k + 1, by omega, by go_num, by rw [HD.out]; go_num, by rw [hst.out, List.length_append, hlen]; exact hown3, hb3⟩
      case measure => simp [intOf]; omega
    · obtain rfl : k = 4 := by omega
      go_wp2_with fail
      go_ret
      have e2 : l ++ leN C 4 = seal_ l := by rw [HC.out, leN_four]; rfl
      rw [e2] at hown
      exact ⟨_, rfl, hown, hbr⟩


set_option maxRecDepth 100000 in
theorem refOpen (w : World) (n c : Nat) (A : Option Addr) (l : List UInt8) (hr : Rd w w.heap.size 1 A n c (bytesV l)) (hl : l.length ≤ 1000000) :
    Calls Tryd.prog 20 #[.slice A n c] w fun e w' => Below w.heap.size w w' ∧
      ((∃ t, open_ l = some t ∧ e = .returned (.tuple #[.slice A t.length c, .bool true]) ∧ Rd w w.heap.size 1 A t.length c (bytesV t)) ∨
       (open_ l = none ∧ e = .returned (.tuple #[.slice none 0 0, .bool false]))) := by
  obtain rfl : n = l.length := by have := hr.len; rw [bytesV_length] at this; omega
  have hpos := hr.le
  by_cases h4 : 4 ≤ l.length
  · obtain ⟨m, hm⟩ : ∃ m, m = l.length - 4 := ⟨_, rfl⟩
    have hm' : IntKind.i64.wrap ((l.length : Int) - 4) = (m : Int) := by rw [IntWalk.i64_in _ ⟨by omega, by omega⟩]; omega
    have hm'' : (l.length : Int) - 4 = (m : Int) := by omega
    have t0 : decide ((l.length : Int) < 4) = false := by simp; omega
    have hle := hr.le
    have hsl := cut_hi (P := Tryd.prog) tyBytes A l.length c .i64 (m : Int) m rfl (by omega)
    have hrm : Rd w w.heap.size 1 A m c (bytesV (l.take m)) := by have := hr.pre (hi := m) (by omega); simpa [bytesV, List.map_take] using this
    have hml : (l.take m).length = m := by rw [List.length_take]; omega
    have HM := hide hm
    have HH4 := hide h4
    have hm1 : m ≤ 1000000 := by omega
    clear hm h4
    go_enter Tryd.func20, Tryd.ntmps20
    go_wp2_with fail
    refine wp_region_abs ext_grow (by kernel_rfl) (by kernel_rfl) ?_
    simp only [List.map_cons, List.map_nil]
    refine wpA_value ext_grow ?_ (fun _ _ h => by cases h) rfl rfl ?_ ?_
    rotate_left 1
    · intro w' hw' C hC
      go_simp
      try go_bits
      exact hC
    simp only [putS, List.set_cons_succ, List.set_cons_zero]
    refine wpA_value ext_grow ?_ (fun _ _ h => by cases h) rfl rfl ?_ ?_
    rotate_left 1
    · intro w' hw' C hC
      go_simp
      try go_bits
      exact hC
    simp only [putS, List.set_cons_succ, List.set_cons_zero]
    refine wpA_value ext_grow ?_ (fun _ _ h => by cases h) rfl rfl ?_ ?_
    rotate_left 1
    · intro w' hw' C hC
      go_simp
      try go_bits
      exact hC
    simp only [putS, List.set_cons_succ, List.set_cons_zero]
    refine wpA_value ext_grow ?_ (fun _ _ h => by cases h) rfl rfl ?_ ?_
    rotate_left 1
    · intro w' hw' C hC
      go_simp
      try go_bits
      exact hC
    simp only [putS, List.set_cons_succ, List.set_cons_zero]
    refine wpA_value ext_grow ?_ (fun _ _ h => by cases h) rfl rfl ?_ ?_
    rotate_left 1
    · intro w' hw' C hC
      go_simp
      try go_bits
      exact hC
    simp only [putS, List.set_cons_succ, List.set_cons_zero]
    refine wpA_value ext_grow ?_ (fun _ _ h => by cases h) rfl rfl ?_ ?_
    rotate_left 1
    · intro w' hw' C hC
      go_simp
      try go_bits
      exact hC
    simp only [putS, List.set_cons_succ, List.set_cons_zero]
    refine wpA_value ext_grow ?_ (fun _ _ h => by cases h) rfl rfl ?_ ?_
    rotate_left 1
    · intro w' hw' C hC
      go_simp
      try go_bits
      exact hC
    simp only [putS, List.set_cons_succ, List.set_cons_zero]
    refine wpA_value ext_grow ?_ (fun _ _ h => by cases h) rfl rfl ?_ ?_
    rotate_left 1
    · intro w' hw' C hC
      go_simp
      try go_bits
      exact hC
    simp only [putS, List.set_cons_succ, List.set_cons_zero]
    refine wpA_value ext_grow ?_ (fun _ _ h => by cases h) rfl rfl ?_ ?_
    rotate_left 1
    · intro w' hw' C hC
      go_simp
      try go_bits
      exact hC
    simp only [putS, List.set_cons_succ, List.set_cons_zero]
    refine wpA_known (Slot.has (BytesR (seal_ (l.take m)))) (fun _ _ h => by cases h) rfl rfl (mono_bytes _) (fun w' hw' => ?_) ?_
    · go_simp
      exact ⟨Below.refl _ _, (refSeal _ w.heap.size _ c A (l.take m) (hrm.below' (below_of_drew hw') (Nat.le_refl _)) (below_of_drew hw').size (by omega)).mono fun e w'' h => by obtain ⟨v, h1, h2, h3⟩ := h; exact bytes_ret h1 h2 h3⟩
    simp only [putS, List.set_cons_succ, List.set_cons_zero]
    refine wpA_str 13 (_) Tryd.underlying34 Tryd.underlying5 Tryd.underlying9 rfl rfl (by simp) rfl rfl (fun _ => rfl) ?_
    simp only [putS, List.set_cons_succ, List.set_cons_zero]
    refine wpA_value ext_grow ?_ (fun _ _ h => by cases h) rfl rfl ?_ ?_
    rotate_left 1
    · intro w' hw' C hC
      go_simp
      try go_bits
      exact hC
    simp only [putS, List.set_cons_succ, List.set_cons_zero]
    refine wpA_value ext_grow ?_ (fun _ _ h => by cases h) rfl rfl ?_ ?_
    rotate_left 1
    · intro w' hw' C hC
      have hcv := run_str (P := Tryd.prog) w' Tryd.underlying34 Tryd.underlying5 Tryd.underlying9 (hr.below' (below_of_drew hw') (Nat.le_refl _))
      go_simp
      exact hC
    simp only [putS, List.set_cons_succ, List.set_cons_zero]
    refine wpA_value ext_grow ?_ (fun _ _ h => by cases h) rfl rfl ?_ ?_
    rotate_left 1
    · intro w' hw' C hC
      go_simp
      try go_bits
      exact hC
    simp only [putS, List.set_cons_succ, List.set_cons_zero]
    refine wpA_value ext_grow ?_ (fun _ _ h => by cases h) rfl rfl ?_ ?_
    rotate_left 1
    · intro w' hw' C hC
      go_simp
      try go_bits
      exact hC
    simp only [putS, List.set_cons_succ, List.set_cons_zero]
    intro w' hw'
    simp only [openS]
    intro vv hvv
    clear hm' hvv
    by_cases heq : seal_ (l.take m) = l
    · have t1 : (seal_ (l.take m) == l) = true := beq_iff_eq.2 heq
      have ho : open_ l = some (l.take m) := by unfold open_; rw [← HM.out, if_pos ⟨HH4.out, heq⟩]
      have HO := hide ho
      simp only [t1, Bool.not_true, Bool.not_false]
      clear heq ho t1
      go_wp2
      go_ret2
      exact ⟨below_of_drew hw', .inl ⟨_, HO.out, by rw [hml]; rfl, by rw [hml]; exact hrm⟩⟩
    · have t1 : (seal_ (l.take m) == l) = false := beq_eq_false_iff_ne.2 heq
      have ho : open_ l = none := by unfold open_; rw [← HM.out, if_neg (fun h => heq h.2)]
      have HO := hide ho
      simp only [t1, Bool.not_true, Bool.not_false]
      clear heq ho t1
      go_wp2
      go_ret2
      exact ⟨below_of_drew hw', .inr ⟨HO.out, rfl⟩⟩
  · have ho : open_ l = none := by unfold open_; rw [if_neg (fun h => h4 h.1)]
    have HO := hide ho
    have t0 : decide ((l.length : Int) < 4) = true := by simp; omega
    clear h4 ho
    go_enter Tryd.func20, Tryd.ntmps20
    go_wp2_with fail
    refine wp_region_abs ext_grow (by kernel_rfl) (by kernel_rfl) ?_
    simp only [List.map_cons, List.map_nil]
    refine wpA_value ext_grow ?_ (fun _ _ h => by cases h) rfl rfl ?_ ?_
    rotate_left 1
    · intro w' hw' C hC
      go_simp
      try go_bits
      exact hC
    simp only [putS, List.set_cons_succ, List.set_cons_zero]
    refine wpA_value ext_grow ?_ (fun _ _ h => by cases h) rfl rfl ?_ ?_
    rotate_left 1
    · intro w' hw' C hC
      go_simp
      try go_bits
      exact hC
    simp only [putS, List.set_cons_succ, List.set_cons_zero]
    refine wpA_value ext_grow ?_ (fun _ _ h => by cases h) rfl rfl ?_ ?_
    rotate_left 1
    · intro w' hw' C hC
      go_simp
      try go_bits
      exact hC
    simp only [putS, List.set_cons_succ, List.set_cons_zero]
    refine wpA_value ext_grow ?_ (fun _ _ h => by cases h) rfl rfl ?_ ?_
    rotate_left 1
    · intro w' hw' C hC
      go_simp
      try go_bits
      exact hC
    simp only [putS, List.set_cons_succ, List.set_cons_zero]
    refine wpA_skip rfl rfl ?_
    simp only [putS, List.set_cons_succ, List.set_cons_zero]
    refine wpA_skip rfl rfl ?_
    simp only [putS, List.set_cons_succ, List.set_cons_zero]
    refine wpA_skip rfl rfl ?_
    simp only [putS, List.set_cons_succ, List.set_cons_zero]
    refine wpA_skip rfl rfl ?_
    simp only [putS, List.set_cons_succ, List.set_cons_zero]
    refine wpA_skip rfl rfl ?_
    simp only [putS, List.set_cons_succ, List.set_cons_zero]
    refine wpA_skip rfl rfl ?_
    simp only [putS, List.set_cons_succ, List.set_cons_zero]
    refine wpA_skip rfl rfl ?_
    simp only [putS, List.set_cons_succ, List.set_cons_zero]
    refine wpA_skip rfl rfl ?_
    simp only [putS, List.set_cons_succ, List.set_cons_zero]
    refine wpA_skip rfl rfl ?_
    simp only [putS, List.set_cons_succ, List.set_cons_zero]
    refine wpA_skip rfl rfl ?_
    simp only [putS, List.set_cons_succ, List.set_cons_zero]
    refine wpA_value ext_grow ?_ (fun _ _ h => by cases h) rfl rfl ?_ ?_
    rotate_left 1
    · intro w' hw' C hC
      go_simp
      try go_bits
      exact hC
    simp only [putS, List.set_cons_succ, List.set_cons_zero]
    intro w' hw'
    simp only [openS]
    go_wp2
    go_ret2
    exact ⟨below_of_drew hw', .inr ⟨HO.out, rfl⟩⟩
end

section
open Go.RowKit

theorem retOpen_one {w w' : World} {l : List UInt8} {e : Ending} (h : RetOpen w l e w') :
    Below w.heap.size w w' ∧ ∃ A c, e = .returned (.tuple #[.slice A ((open_ l).getD []).length c, .bool (open_ l).isSome]) ∧ Rd w' w'.heap.size 1 A ((open_ l).getD []).length c (bytesV ((open_ l).getD [])) := by
  rcases h with ⟨t, v, h1, rfl, hown, hb⟩ | ⟨h1, rfl, hb⟩
  · obtain ⟨A, c, rfl, hr⟩ := Rd.of_own hown
    exact ⟨hb, A, c, by rw [h1]; rfl, by rw [h1]; exact hr⟩
  · exact ⟨hb, none, 0, by rw [h1]; rfl, by rw [h1]; exact Rd.nil _ _ _⟩
end

section
open Go.RowKit

set_option maxRecDepth 100000 in
theorem schNum (w : World) (b : Nat) (A : Option Addr) (c : Nat) (l : List UInt8) (er : Nat) (h : RdrA w b A c l er) (most : Nat) (_hm : most < 18446744073709551616) :
    Calls Tryd.prog 70 #[.pointer (some ⟨b, 0, none⟩), .int .u64 (most : Int)] w (NumEnd w b (num most l er)) := by
  have c0 := h.c0
  have c1 := h.c1
  have f0 := h.f0
  have f1 := h.f1
  go_enter Tryd.func70, Tryd.ntmps70
  by_cases he : er = 0
  · subst he
    have c1 : w.cell? ⟨b, 1, none⟩ = some (.int .i64 0) := h.c1
    go_wp2_with fail
    refine (varGet w b _ c A l h.rd).mono ?_
    rintro e w1 ⟨rfl, rfl⟩
    have hused := hide (show (Var.get l).2.1 ≤ 10 from Var.get_used l)
    by_cases hg : (Var.get l).2.2 = 0
    · by_cases hb : most < (Var.get l).1
      · have HN := hide (num_m hg hb)
        obtain ⟨g1, hg1⟩ : ∃ g, g = (Var.get l).1 := ⟨_, rfl⟩
        rw [← hg1] at hb ⊢
        rw [hg]
        generalize (Var.get l).2.1 = g2 at *
        clear hg hg1
        go_wp2_with fail
        go_ret
        exact ⟨by rw [HN.out]; rfl, ⟨A, c, by rw [HN.out]; exact h.set1 40⟩, (Oth.refl b w).set 1 _⟩
      · have HN := hide (num_0 hg hb)
        have hk : (Var.get l).2.1 ≤ l.length := (Var.get_ok (l := l) (n := (Var.get l).1) (k := (Var.get l).2.1) (by rw [← hg])).2.1
        obtain ⟨A2, l2, hl2, s1, s2, hr2⟩ := rd_lo h.rd hk
        rw [← hl2] at HN
        obtain ⟨g1, hg1⟩ : ∃ g, g = (Var.get l).1 := ⟨_, rfl⟩
        rw [← hg1] at hb HN ⊢
        rw [hg]
        generalize (Var.get l).2.1 = g2 at *
        have HR := hide hr2
        clear hg hg1 hl2 hk hr2
        go_wp2_with fail
        go_ret
        exact ⟨by rw [HN.out]; rfl, ⟨A2, c - g2, by rw [HN.out]; exact h.set0 HR.out⟩, (Oth.refl b w).set 0 _⟩
    · have HN := hide (num_g (most := most) hg)
      obtain ⟨g3, hg3⟩ : ∃ g, g = (Var.get l).2.2 := ⟨_, rfl⟩
      rw [← hg3] at hg HN ⊢
      generalize (Var.get l).2.1 = g2 at *
      generalize (Var.get l).1 = g1 at *
      have t1 : ((g3 : Int) == 0) = false := by rw [beq_eq_false_iff_ne]; omega
      have t2 : ((g3 : Int) != 0) = true := by rw [bne_iff_ne]; omega
      clear hg hg3
      go_wp2_with fail
      go_ret
      exact ⟨by rw [HN.out]; rfl, ⟨A, c, by rw [HN.out]; exact h.set1 g3⟩, (Oth.refl b w).set 1 _⟩
  · have HN := hide (num_e (most := most) (l := l) he)
    have t1 : ((er : Int) != 0) = true := by rw [bne_iff_ne]; omega
    clear he
    go_wp2_with fail
    go_ret
    exact ⟨by rw [HN.out]; rfl, ⟨A, c, by rw [HN.out]; exact h⟩, Oth.refl b w⟩
end

section
open Go.RowKit
theorem cloneB (w : World) (B n c : Nat) (A : Option Addr) (xs : List Value) (hr : Rd w B 1 A n c xs) (h1 : ∀ u ∈ xs, u.oneCell' = true) (hb : n * 1 ≤ 140737488355328) (hB : B ≤ w.heap.size) :
    Calls Tryd.prog 54 #[.slice A n c] w (RetRow w 5 1 n xs) := by
  have heq := fun W => Lib.run_eql_slice_nil (P := Tryd.prog) W 34 5 A n c 0 0 Tryd.underlying34
  cases A with
  | none =>
    obtain ⟨rfl, rfl⟩ := hr.none_
    go_enter Tryd.func54, Tryd.ntmps54
    go_wp2_with fail
    go_ret
    exact ⟨_, rfl, World.ownsRow_nil _ _ _ _, Below.refl _ _⟩
  | some ad =>
    have hlit := own_lit w (base := w.heap.size) 5 1 0 #[] (Nat.le_refl _) (by decide) rfl
    have hr' := hr.alloc hB (.cells #[] 5)
    go_enter Tryd.func54, Tryd.ntmps54
    go_wp2_with (at_builtin; refine wpList_app _ tyBytes rfl _ _ rfl w.heap.size _ 0 [] rfl hlit B (some ad) _ c _ rfl hr' h1 (by omega) (by simp) ?_; intro v2 w2 hown2 hg2 _; simp only [Nat.zero_add, List.nil_append] at hown2; have hb2 := below_app ((Below.refl w.heap.size w).alloc (Nat.le_refl _) (.cells #[] 5)) (Nat.le_refl _) hlit hg2 (by simp))
    go_ret
    exact ⟨v2, rfl, hown2, hb2⟩
theorem set2_keep {W : World} {b : Nat} {p : Addr} {v : Option Value} (hne : p.block ≠ b) (h : W.cell? p = v) (x y : Value) : ((W.setCell ⟨b, 0, none⟩ x).setCell ⟨b, 1, none⟩ y).cell? p = v := by
  rw [World.cell?_setCell_other, World.cell?_setCell_other]
  · exact h
  · intro q; exact hne (by rw [← q])
  · intro q; exact hne (by rw [← q])
theorem num_left (most : Nat) (l : List UInt8) (e : Nat) : (num most l e).2.1.length ≤ l.length := num_len most l e
theorem text_left (r : RdN) : (textL r).length ≤ r.2.1.length := by unfold textL; split <;> simp
theorem rdF_left (l : List UInt8) (e : Nat) : (rdF l e).2.1.length ≤ l.length := by
  unfold rdF
  have h1 := num_left 4294967295 l e
  have h2 := num_left 16 (num 4294967295 l e).2.1 (num 4294967295 l e).2.2
  have h3 := text_left (num 16 (num 4294967295 l e).2.1 (num 4294967295 l e).2.2)
  have h4 := num_left 255 (textL (num 16 (num 4294967295 l e).2.1 (num 4294967295 l e).2.2)) (textE (num 16 (num 4294967295 l e).2.1 (num 4294967295 l e).2.2))
  have h5 := num_left 1 (num 255 (textL (num 16 (num 4294967295 l e).2.1 (num 4294967295 l e).2.2)) (textE (num 16 (num 4294967295 l e).2.1 (num 4294967295 l e).2.2))).2.1 (num 255 (textL (num 16 (num 4294967295 l e).2.1 (num 4294967295 l e).2.2)) (textE (num 16 (num 4294967295 l e).2.1 (num 4294967295 l e).2.2))).2.2
  exact Nat.le_trans h5 (Nat.le_trans h4 (Nat.le_trans h3 (Nat.le_trans h2 h1)))
theorem rdFs_left : ∀ n l e acc, (rdFs n l e acc).2.1.length ≤ l.length := by
  intro n
  induction n with
  | zero => intro l e acc; simp [rdFs]
  | succ n ih =>
    intro l e acc
    simp only [rdFs]
    split
    · simp
    · exact Nat.le_trans (ih _ _ _) (rdF_left l e)
theorem unp_bad {l : List UInt8} (h : (rdS l 0).err ≠ 0) : uId l = 0 ∧ uFs l = [] ∧ uLeft l = [] := by
  unfold uId uFs uLeft
  rw [if_neg h, if_neg h, if_neg h]
  exact ⟨rfl, rfl, rfl⟩
theorem unp_ok {l lf : List UInt8} {id : UInt32} {fs : List Fd} (h : rdS l 0 = ⟨id, fs, lf, 0⟩) : uId l = id ∧ uFs l = fs ∧ uLeft l = lf := by
  unfold uId uFs uLeft
  rw [h]
  exact ⟨rfl, rfl, rfl⟩
/-- what stands behind 'f.Name, r.b = string(r.b[:size]), r.b[size:]' -/
def TextDone (b bf : Nat) (wr : World) (fid : UInt32) (nm : ByteArray) (l7 : List UInt8) (wx : World) : Prop :=
  (∃ A c, RdrA wx b A c l7 0) ∧ Oth b wr wx ∧ BoxN wx bf [.int .u32 (fid.toNat : Int), .string nm, .int .u8 0, .bool false]
theorem TextDone.drew {b bf : Nat} {wr wx : World} {fid : UInt32} {nm : ByteArray} {l7 : List UInt8} (h : TextDone b bf wr fid nm l7 wx) : TextDone b bf wr fid nm l7 wx.drew := by
  obtain ⟨⟨A, c, h1⟩, h2, h3⟩ := h
  exact ⟨⟨A, c, h1.keep (Below.refl _ wx).drew⟩, h2.drew, h3.keep (Below.refl _ wx).drew h3.z⟩
section
variable {w6 wr : World} {b bf c c2 : Nat} {A A2 : Option Addr} {l l2 : List UInt8} {fid : UInt32} {s0 nm : ByteArray}
theorem td1 (rd6 : RdrA w6 b A c l 0) (hr2 : Rd w6 b 1 A2 l2.length c2 (bytesV l2)) (zb : b < bf) (zf : wr.heap.size ≤ bf) (ho : Oth b wr w6) (fb : BoxN w6 bf [.int .u32 (fid.toNat : Int), .string s0, .int .u8 0, .bool false]) :
    TextDone b bf wr fid nm l2 ((w6.setCell ⟨bf, 1, none⟩ (.string nm)).setCell ⟨b, 0, none⟩ (.slice A2 l2.length c2)) :=
  ⟨⟨A2, c2, (rd6.elsewhere (p := ⟨bf, 1, none⟩) zb (.string nm)).set0 (hr2.below ((Below.refl b w6).setCell (p := ⟨bf, 1, none⟩) (Nat.le_of_lt zb) _))⟩, (ho.setNew (p := ⟨bf, 1, none⟩) zf (.string nm)).set 0 _,
    (fb.set (j := 1) (.string nm) rfl).else (p := ⟨b, 0, none⟩) (Nat.ne_of_lt zb) _⟩
theorem td2 (rd6 : RdrA w6 b A c l 0) (hr2 : Rd w6 b 1 A2 l2.length c2 (bytesV l2)) (zb : b < bf) (zf : wr.heap.size ≤ bf) (ho : Oth b wr w6) (fb : BoxN w6 bf [.int .u32 (fid.toNat : Int), .string s0, .int .u8 0, .bool false]) :
    TextDone b bf wr fid nm l2 ((w6.setCell ⟨b, 0, none⟩ (.slice A2 l2.length c2)).setCell ⟨bf, 1, none⟩ (.string nm)) :=
  ⟨⟨A2, c2, (rd6.set0 hr2).elsewhere (p := ⟨bf, 1, none⟩) zb (.string nm)⟩, (ho.set 0 _).setNew (p := ⟨bf, 1, none⟩) zf (.string nm),
    (fb.else (p := ⟨b, 0, none⟩) (Nat.ne_of_lt zb) _).set (j := 1) (.string nm) rfl⟩
end

/-- what Unpack tells is one's own -/
def UnpEndO (w : World) (l : List UInt8) (e : Ending) (w' : World) : Prop :=
  ∃ F fc A c, e = .returned (.tuple #[.agg #[.int .u32 ((uId l).toNat : Int), .slice F (uFs l).length fc], .slice A (uLeft l).length c, .int .i64 ((rdS l 0).err : Int)]) ∧
    w'.ownsRow w.heap.size 44 4 (.slice F (uFs l).length fc) (uFs l).length (fdsV (uFs l)) ∧ w'.ownsRow w.heap.size 5 1 (.slice A (uLeft l).length c) (uLeft l).length (bytesV (uLeft l)) ∧ Below w.heap.size w w'
set_option maxRecDepth 100000 in
set_option maxHeartbeats 4000000 in
theorem schUnpackO (w : World) (n c : Nat) (A : Option Addr) (l : List UInt8) (hr : Rd w w.heap.size 1 A n c (bytesV l)) (hmax : l.length ≤ 1000000) :
    Calls Tryd.prog 45 #[.slice A n c] w (UnpEndO w l) := by
  obtain rfl : n = l.length := by have := hr.len; rw [bytesV_length] at this; omega
  go_enter Tryd.func45, Tryd.ntmps45
  go_wp2_with fail
  have x0 := boxN_new w #[.int .u32 0, .slice none 0 0] 47
  have hra := (hr.below ((Below.refl w.heap.size w).alloc (Nat.le_refl _) (.cells #[.int .u32 0, .slice none 0 0] 47))).more (show w.heap.size ≤ (w.alloc (.cells #[.int .u32 0, .slice none 0 0] 47)).heap.size by simp)
  have hza : (w.alloc (.cells #[.int .u32 0, .slice none 0 0] 47)).heap.size = w.heap.size + 1 := by simp
  have hba := (Below.refl w.heap.size w).alloc (Nat.le_refl _) (.cells #[.int .u32 0, .slice none 0 0] 47)
  generalize w.alloc (.cells #[.int .u32 0, .slice none 0 0] 47) = wa at *
  rw [← hza]
  have h0 := rdr_new wa hra 106
  have hbb := (Below.refl wa.heap.size wa).alloc (Nat.le_refl _) (.cells #[.slice A l.length c, .int .i64 0] 106)
  have x0' := x0.keep hbb x0.z
  have hob : Oth wa.heap.size w (wa.alloc (.cells #[.slice A l.length c, .int .i64 0] 106)) := (Oth.of hba).trans (.of hbb)
  generalize wa.alloc (.cells #[.slice A l.length c, .int .i64 0] 106) = wb at *
  obtain ⟨B0, hB0⟩ : ∃ B0, B0 = w.heap.size := ⟨_, rfl⟩
  obtain ⟨b, hb⟩ : ∃ b, b = wa.heap.size := ⟨_, rfl⟩
  rw [← hb] at h0 hob ⊢
  rw [← hB0] at x0' ⊢
  have hbr : B0 < b := by omega
  have hB0' : w.heap.size ≤ B0 := Nat.le_of_eq hB0.symm
  have hbw : w.heap.size ≤ b := by omega
  clear hra hza hba hbb x0 hB0 hb hr
  refine (schNum wb b A c l 0 h0 4294967295 (by decide)).mono ?_
  rintro e w1 ⟨rfl, ⟨A1, c1, h1⟩, ho1⟩
  have hle := num_le 4294967295 l 0
  have hl1 := num_left 4294967295 l 0
  obtain ⟨r, hr⟩ : ∃ r, r = num 4294967295 l 0 := ⟨_, rfl⟩
  rw [← hr] at h1 hle hl1 ⊢
  obtain ⟨n1, l1, e1⟩ := r
  dsimp only at h1 hle hl1 ⊢
  obtain ⟨id, rfl⟩ : ∃ id : UInt32, n1 = id.toNat := ⟨UInt32.ofNat n1, (ofNat32 (by omega)).symm⟩
  have HA := hide hr
  have x1 := x0'.oth ho1 (by omega)
  have ho1' := hob.trans ho1
  have a32 : (id.toNat : Int) % 4294967296 = (id.toNat : Int) := by omega
  have a32w : IntKind.u32.wrap (id.toNat : Int) = (id.toNat : Int) := by rw [IntKind.wrap_u32]; omega
  have HL1 := hide hl1
  clear hr hob h0 x0' hl1
  go_wp2_with fail
  have xs := boxN_new w1 #[.int .u32 (id.toNat : Int), .slice none 0 0] 47
  have hbA := (Below.refl w1.heap.size w1).alloc (Nat.le_refl _) (.cells #[.int .u32 (id.toNat : Int), .slice none 0 0] 47)
  have h2 := h1.keep hbA
  have x2 := x1.keep hbA x1.z
  have ho2 := ho1'.alloc (.cells #[.int .u32 (id.toNat : Int), .slice none 0 0] 47)
  have o1 : b < w1.heap.size := h1.z
  have o2 : B0 < w1.heap.size := x1.z
  have o4 : w.heap.size ≤ w1.heap.size := Nat.le_trans hB0' (Nat.le_of_lt o2)
  generalize w1.alloc (.cells #[.int .u32 (id.toNat : Int), .slice none 0 0] 47) = w2 at *
  generalize w1.heap.size = bs at *
  have G2 : GU w B0 b bs id A1 c1 l1 e1 none 0 [] w2 := ⟨h2, xs, World.ownsRow_nil _ _ _ _, x2, ho2, o1, o2, by omega, o4⟩
  refine (schNum w2 b A1 c1 l1 e1 h2 8 (by decide)).mono ?_
  rintro e w3 ⟨rfl, ⟨A2, c2, h3⟩, ho3⟩
  have hle2 := num_le 8 l1 e1
  have hl2 := num_left 8 l1 e1
  obtain ⟨r, hr⟩ : ∃ r, r = num 8 l1 e1 := ⟨_, rfl⟩
  rw [← hr] at h3 hle2 hl2 ⊢
  obtain ⟨N, l2, e2⟩ := r
  dsimp only at h3 hle2 hl2 ⊢
  have G3 := G2.go h3 ho3
  have HN := hide hr
  obtain ⟨Q, hQ⟩ : ∃ Q, rdFs N l2 e2 [] = Q := ⟨_, rfl⟩
  have HQ := hide hQ
  have hql := rdFs_left N l2 e2 []
  rw [hQ] at hql
  have HQL : Hid (Q.2.1.length ≤ 1000000) := hide (by have := HL1.out; omega)
  clear hr hQ hql hl2 a32 a32w hbA G2 ho3 h3 h2 x2 ho2 xs ho1 ho1' h1 x1 hle HL1
  go_wp2_with fail
  go_loopw [7] (GUR w B0 b bs id Q) (fun iv _ => (intOf iv).toNat)
  case atStart => exact ⟨N, A2, c2, l2, e2, none, 0, [], rfl, by simp; omega, HQ, G3⟩
  case round =>
    clear G3
    obtain ⟨m, A', c', l', e', fA, fc, fs, rfl, hlen, hrd, G⟩ := hrel
    by_cases he : e' = 0
    · subst he
      have k1 : wr.cell? ⟨b, 1, none⟩ = some (.int .i64 0) := G.rd.c1
      by_cases hm : m = 0
      · -- THE END, well so far
        have hq := rdFs_end (m := m) (l := l') (e := 0) (fs := fs) (.inl hm)
        have hQ2 := hrd.out
        rw [hq] at hQ2
        have HQ2 := hide hQ2
        have HLL : Hid (l'.length ≤ 1000000) := hide (by have := HQL.out; rw [← HQ2.out] at this; exact this)
        have t1 : ¬ 0 < m := by omega
        have s0 := G.bx.cell 0 _ rfl
        have s1 := G.bx.cell 1 _ rfl
        clear hq hQ2 hm hlen
        go_wp2_with fail
        refine (schCheck wr id _ fc fA fs G.rdF).mono ?_
        rintro e w5 ⟨rfl, hb5⟩
        have G4 := G.call hb5
        have GX := G4.why (check id fs)
        have HS : Hid (rdS l 0 = ⟨id, fs, l', check id fs⟩) := hide (by have := rdS_of HA.out HN.out (HQ.out.trans HQ2.out.symm); simpa using this)
        have d1 := G4.rd.c1
        have d2 := G4.rd.f1
        have d0 := G4.rd.c0
        have v0 := G4.bx.cell 0 _ rfl
        have v1 := G4.bx.cell 1 _ rfl
        have r0 := G4.rb.cell 0 _ rfl
        have r1 := G4.rb.cell 1 _ rfl
        have rf0 := G4.rb.free 0 (by simp)
        have rf1 := G4.rb.free 1 (by simp)
        have n1 : b ≠ bs := by omega
        have n2 : b ≠ B0 := by omega
        have n3 : bs ≠ b := by omega
        have n4 : B0 ≠ b := by omega
        have GX' := hide GX
        clear GX G4 G hb5 k1 s0 s1
        by_cases hck : check id fs = 0
        · have t3 : ((check id fs : Int) != 0) = false := by rw [hck]; rfl
          have HS0 : Hid (rdS l 0 = ⟨id, fs, l', 0⟩) := hide (by rw [HS.out, hck])
          generalize check id fs = ck at *
          clear hck HS
          go_wp2_with fail
          have GX := GX'.out
          have e0 := GX.rd.c0
          have e1 := GX.bx.cell 0 _ rfl
          have e2 := GX.bx.cell 1 _ rfl
          have e3 := GX.rb.cell 0 _ rfl
          have e4 := GX.rb.cell 1 _ rfl
          have e5 := GX.rb.free 0 (by simp)
          have e6 := GX.rb.free 1 (by simp)
          have hrd0 : Rd (w5.setCell ⟨b, 1, none⟩ (.int .i64 (ck : Int))) b 1 A' l'.length c' (bytesV l') := GX.rd.rd
          have hzb : b ≤ (w5.setCell ⟨b, 1, none⟩ (.int .i64 (ck : Int))).heap.size := Nat.le_of_lt GX.rd.z
          have HRD := hide (And.intro hrd0 hzb)
          clear d0 d1 d2 v0 v1 r0 r1 rf0 rf1 hrd0 hzb GX
          generalize w5.setCell ⟨b, 1, none⟩ (.int .i64 (ck : Int)) = w6 at *
          have nb1 : bs ≠ B0 := by omega
          go_region_held3 (fun w' => w'.cell? ⟨b, 0, none⟩ = some (.slice A' l'.length c') ∧ w'.cell? ⟨bs, 0, none⟩ = some (.int .u32 (id.toNat : Int)) ∧ w'.cell? ⟨bs, 1, none⟩ = some (.slice fA fs.length fc)) (first | exact ⟨e0', e1', e2'⟩ | exact ⟨e0, e1, e2⟩ | exact ⟨set2_keep n2 e0' _ _, set2_keep nb1 e1' _ _, set2_keep nb1 e2' _ _⟩ | go_keep)
            (first | (go_at_call 54; refine (cloneB w6.drew b l'.length c' A' (bytesV l') HRD.out.1.drew (bytesV_one l') (by have := HLL.out; omega) HRD.out.2).mono ?_; rintro e w7 ⟨v7, rfl, hown7, hb7⟩; have hb7' := below_of_drew hb7; have G7 := GX'.out.call hb7'; have e0' := G7.rd.c0; have e1' := G7.bx.cell 0 _ rfl; have e2' := G7.bx.cell 1 _ rfl; have e3' := G7.rb.cell 0 _ rfl; have e4' := G7.rb.cell 1 _ rfl; have e5' := G7.rb.free 0 (by simp); have e6' := G7.rb.free 1 (by simp)))
          all_goals (try go_wp2_with fail)
          all_goals (try simp only [Exit.inBlock, Exit.then])
          all_goals
            have G7 := GX'.out.call hb7'
            obtain ⟨y1, _, y3, y4, y5⟩ := G7.fin (.int .u32 (id.toNat : Int)) (.slice fA fs.length fc)
            have hB6 : B0 < w6.drew.heap.size := Nat.lt_of_lt_of_le hbr HRD.out.2
            have ho := ownsRow_setCell_below (ownsRow_setCell_below hown7 (a := ⟨B0, 0, none⟩) hB6 (.int .u32 (id.toNat : Int))) (a := ⟨B0, 1, none⟩) hB6 (.slice fA fs.length fc)
            obtain ⟨Ac, cc, q, hrc⟩ := Rd.of_own ho
            subst q
            refine bodyPost_ret (ret_sch3 (b := B0) (x := .int .u32 (id.toNat : Int)) (y := .slice fA fs.length fc) rfl _ _ rfl y4 y5) rfl ?_
            obtain ⟨q1, q2, q3⟩ := unp_ok HS0.out
            refine ⟨fA, fc, Ac, cc, ?_, ?_, ?_, (y3 hB0').belowB hbw (Nat.le_refl _)⟩
            · rw [q1, q2, q3, HS0.out]; rfl
            · rw [q2]; exact own_base (ownsRow_setCell_below (ownsRow_setCell_below G7.own (a := ⟨B0, 0, none⟩) (Nat.lt_succ_of_lt G7.o2) _) (a := ⟨B0, 1, none⟩) (Nat.lt_succ_of_lt G7.o2) _) (Nat.le_succ_of_le G7.o4)
            · rw [q3]; exact own_base ho (Nat.le_trans hB0' (Nat.le_of_lt hB6))
        · have t3 : ((check id fs : Int) != 0) = true := by rw [bne_iff_ne]; omega
          have HS0 : Hid ((rdS l 0).err = check id fs ∧ (rdS l 0).err ≠ 0) := hide (by rw [HS.out]; exact ⟨rfl, hck⟩)
          generalize check id fs = ck at *
          clear hck HS
          go_wp2_with fail
          have GX := GX'.out
          have e0 := GX.rd.c1
          have e3 := GX.rb.cell 0 _ rfl
          have e4 := GX.rb.cell 1 _ rfl
          have e5 := GX.rb.free 0 (by simp)
          have e6 := GX.rb.free 1 (by simp)
          have n1' : b ≠ B0 := by omega
          have n2' : B0 ≠ b := by omega
          clear GX
          clear d0 d1 d2 v0 v1 r0 r1 rf0 rf1
          generalize w5.setCell ⟨b, 1, none⟩ (.int .i64 (ck : Int)) = w6 at *
          go_region_held3 (fun w' => w'.cell? ⟨b, 1, none⟩ = some (.int .i64 (ck : Int))) (first | exact e0 | exact set2_keep n1' e0 _ _ | go_keep) (fail)
          all_goals (try go_wp2_with fail)
          all_goals (try simp only [Exit.inBlock, Exit.then])
          all_goals
            obtain ⟨y1, _, y3, y4, y5⟩ := (GX'.out.call ((Below.refl _ w6).drew)).fin (.int .u32 0) (.slice none 0 0)
            refine bodyPost_ret (ret_sch3 (b := B0) (x := .int .u32 0) (y := .slice none 0 0) rfl _ _ rfl y4 y5) rfl ?_
            obtain ⟨q1, q2, q3⟩ := unp_bad HS0.out.2
            refine ⟨none, 0, none, 0, ?_, ?_, ?_, (y3 hB0').belowB hbw (Nat.le_refl _)⟩
            · rw [q1, q2, q3, HS0.out.1]; rfl
            · rw [q2]; exact World.ownsRow_nil _ _ _ _
            · rw [q3]; exact World.ownsRow_nil _ _ _ _
      · -- THE ROUND
        have hq := hrd.out
        have hm0 : 0 < m := Nat.pos_of_ne_zero hm
        rw [show m = (m - 1) + 1 by omega, rdFs_on] at hq
        have HQ2 := hide hq
        have t1 : decide ((0 : Int) < (m : Int)) = true := decide_eq_true (by omega)
        have HM := hide hm0
        clear hq hm hrd hm0
        go_wp2_with fail
        refine (schNum wr b A' c' l' 0 G.rd 4294967295 (by decide)).mono ?_
        rintro e w4 ⟨rfl, ⟨A4, c4, rd4⟩, ho4⟩
        have hle := num_le 4294967295 l' 0
        obtain ⟨r, hr⟩ : ∃ r, num 4294967295 l' 0 = r := ⟨_, rfl⟩
        rw [hr] at rd4 hle ⊢
        obtain ⟨a, l4, e4⟩ := r
        dsimp only at rd4 hle ⊢
        obtain ⟨fid, rfl⟩ : ∃ id : UInt32, a = id.toNat := ⟨UInt32.ofNat a, (ofNat32 (by omega)).symm⟩
        have HF1 := hide hr
        have a32 : (fid.toNat : Int) % 4294967296 = (fid.toNat : Int) := by omega
        have a32w : IntKind.u32.wrap (fid.toNat : Int) = (fid.toNat : Int) := by rw [IntKind.wrap_u32]; omega
        clear hr hle k1
        go_wp2_with fail
        have fb5 := boxN_new w4 #[.int .u32 (fid.toNat : Int), .string ⟨#[]⟩, .int .u8 0, .bool false] 44
        have hbf := (Below.refl w4.heap.size w4).alloc (Nat.le_refl _) (.cells #[.int .u32 (fid.toNat : Int), .string ⟨#[]⟩, .int .u8 0, .bool false] 44)
        have rd5 := rd4.keep hbf
        have ho5 := ho4.alloc (.cells #[.int .u32 (fid.toNat : Int), .string ⟨#[]⟩, .int .u8 0, .bool false] 44)
        have zf : wr.heap.size ≤ w4.heap.size := ho4.size
        have zb : b < w4.heap.size := rd4.z
        clear a32 a32w hbf rd4 ho4
        generalize w4.alloc (.cells #[.int .u32 (fid.toNat : Int), .string ⟨#[]⟩, .int .u8 0, .bool false] 44) = w5 at *
        generalize w4.heap.size = bf at *
        simp only [] at fb5
        refine (schNum w5 b A4 c4 l4 e4 rd5 16 (by decide)).mono ?_
        rintro e w6 ⟨rfl, ⟨A6, c6, rd6⟩, ho6⟩
        have hle := num_le 16 l4 e4
        obtain ⟨r, hr⟩ : ∃ r, num 16 l4 e4 = r := ⟨_, rfl⟩
        rw [hr] at rd6 hle ⊢
        have HF2 := hide hr
        have fb6 := fb5.oth ho6 (by omega)
        have ho6' := ho5.trans ho6
        clear hr ho5 ho6 rd5 fb5
        obtain ⟨sz, l6, e6⟩ := r
        dsimp only at rd6 hle ⊢
        have hcap : l6.length < 9223372036854775808 := by have := rd6.rd.le; have := rd6.rd.cap; unfold maxLen at *; omega
        have k0 := rd6.c0
        have f0 := rd6.f0
        have f1 := rd6.f1
        have nbf : b ≠ bf := Nat.ne_of_lt zb
        have nbf' : bf ≠ b := fun q => nbf q.symm
        by_cases he6 : e6 = 0
        · subst he6
          by_cases hl : l6.length < sz
          · -- 30
            have k1 : w6.cell? ⟨b, 1, none⟩ = some (.int .i64 0) := rd6.c1
            obtain ⟨q1, q2, q3⟩ := text_30 (r := (sz, l6, 0)) rfl hl
            have HNM := hide (And.intro q2 (And.intro q3 q1))
            have rd7 := rd6.set1 30
            have ho7 := ho6'.set 1 (.int .i64 30)
            have fb7 := fb6.else (p := ⟨b, 1, none⟩) nbf (.int .i64 30)
            obtain ⟨nm, hnm⟩ : ∃ nm : ByteArray, (⟨#[]⟩ : ByteArray) = nm := ⟨_, rfl⟩
            clear q1 q2 q3 rd6 fb6 ho6'
            go_wp2_with fail
            have ho7 : Oth b wr (w6.setCell ⟨b, 1, none⟩ (.int .i64 30)) := ho7
            have rd7 : RdrA (w6.setCell ⟨b, 1, none⟩ (.int .i64 30)) b A6 c6 l6 30 := rd7
            clear k0 k1 f0 f1
            generalize w6.setCell ⟨b, 1, none⟩ (.int .i64 30) = w7 at *
            have HNM' : Hid (textS (sz, l6, 0) = nm ∧ textL (sz, l6, 0) = l6 ∧ textE (sz, l6, 0) = 30) := hide (by rw [← hnm]; exact HNM.out)
            have fb7' : BoxN w7 bf [.int .u32 (fid.toNat : Int), .string nm, .int .u8 0, .bool false] := by rw [← hnm]; exact fb7
            clear hnm fb7 HNM
            refine (schNum w7 b A6 c6 l6 30 rd7 255 (by decide)).mono ?_
            rintro e w8 ⟨rfl, ⟨A8, c8, rd8⟩, ho8⟩
            have hle := num_le 255 l6 30
            obtain ⟨r2, hr⟩ : ∃ r2, num 255 l6 30 = r2 := ⟨_, rfl⟩
            rw [hr] at rd8 hle ⊢
            obtain ⟨a, l8, e8⟩ := r2
            dsimp only at rd8 hle ⊢
            obtain ⟨kd, rfl⟩ : ∃ kd : UInt8, a = kd.toNat := ⟨UInt8.ofNat a, (ofNat8 (by omega)).symm⟩
            have HF3 := hide hr
            have a8 : (kd.toNat : Int) % 256 = (kd.toNat : Int) := by omega
            have a8w : IntKind.u8.wrap (kd.toNat : Int) = (kd.toNat : Int) := by rw [IntKind.wrap_u8]; omega
            have fb8 := fb7'.oth ho8 (by omega)
            have ho8' := ho7.trans ho8
            have u1 := fb8.cell 2 _ rfl
            have u2 := fb8.free 2 (by simp)
            clear hr hle ho7 ho8 rd7 fb7'
            go_wp2_with fail
            have rd9 := rd8.elsewhere (p := ⟨bf, 2, none⟩) zb (.int .u8 (kd.toNat : Int))
            have ho9 := ho8'.setNew (p := ⟨bf, 2, none⟩) zf (.int .u8 (kd.toNat : Int))
            have fb9 := fb8.set (j := 2) (.int .u8 (kd.toNat : Int)) rfl
            clear u1 u2 rd8 ho8' fb8 a8 a8w
            generalize w8.setCell ⟨bf, 2, none⟩ (.int .u8 (kd.toNat : Int)) = w9 at *
            simp only [List.set_cons_succ, List.set_cons_zero] at fb9
            refine (schNum w9 b A8 c8 l8 e8 rd9 1 (by decide)).mono ?_
            rintro e wA ⟨rfl, ⟨AA, cA, rdA⟩, hoA⟩
            obtain ⟨r2, hr⟩ : ∃ r2, num 1 l8 e8 = r2 := ⟨_, rfl⟩
            rw [hr] at rdA ⊢
            obtain ⟨q, lA, eA⟩ := r2
            dsimp only at rdA ⊢
            have HF4 := hide hr
            obtain ⟨qb, hqb⟩ : ∃ qb, qb = decide (q = 1) := ⟨_, rfl⟩
            have hq1 : ((q : Int) == 1) = qb := by rw [hqb, Bool.eq_iff_iff]; simp; omega
            have HQB := hide hqb
            have fbA := fb9.oth hoA (by omega)
            have hoA' := ho9.trans hoA
            have u1 := fbA.cell 3 _ rfl
            have u2 := fbA.free 3 (by simp)
            have rdB := rdA.elsewhere (p := ⟨bf, 3, none⟩) zb (.bool qb)
            have hoB := hoA'.setNew (p := ⟨bf, 3, none⟩) zf (.bool qb)
            have GA := G.go rdA hoA'
            have GB := G.go rdB hoB
            have v1 := GA.bx.cell 1 _ rfl
            have x0 := fbA.cell 0 _ rfl
            have x1 := fbA.cell 1 _ rfl
            have x2 := fbA.cell 2 _ rfl
            have nbs : bs ≠ bf := by have := G.bx.z; omega
            have nbs' : bf ≠ bs := fun q => nbs q.symm
            obtain ⟨f, hf⟩ : ∃ f : Fd, f = ⟨fid, nm, kd, qb⟩ := ⟨_, rfl⟩
            have hfv : (#[.int .u32 (fid.toNat : Int), .string nm, .int .u8 (kd.toNat : Int), .bool qb] : Array Value).toList = fdV f := by rw [hf]; rfl
            have hone : ∀ u ∈ fdV f, u.oneCell' = true := fun u hu => fdsV_one [f] u (by simpa [fdsV] using hu)
            have hlit := GB.lit f (cs := #[.int .u32 (fid.toNat : Int), .string nm, .int .u8 (kd.toNat : Int), .bool qb]) hfv rfl
            rw [show (wA.setCell ⟨bf, 3, none⟩ (.bool qb)).heap.size = wA.heap.size by simp] at hlit
            have HLIT := hide hlit
            have hRF : rdF l' 0 = (f, lA, eA) := by
              have := rdF_of HF1.out HF2.out (e3 := e8) (l3 := l8) (kd := kd) (by rw [HNM'.out.2.1, HNM'.out.2.2]; exact HF3.out) HF4.out
              rw [this, hf, HQB.out, HNM'.out.1]
            have HQ3 : Hid (rdFs (m - 1) lA eA (fs ++ [f]) = Q) := hide (by have := HQ2.out; rw [hRF] at this; exact this)
            have hbz : bs + 1 ≤ wA.heap.size := GA.bx.z
            have HGB := hide GB
            have hw1 : IntKind.u64.wrap ((m : Int) - 1) = (m : Int) - 1 := by have := HM.out; rw [IntKind.wrap_u64]; omega
            have hw2 : ((m : Int) - 1) % 18446744073709551616 = (m : Int) - 1 := by have := HM.out; omega
            clear hr ho9 hoA rd9 fb9 hqb hlit hRF hfv hf GA GB G rdB hoB rdA hoA'
            go_wp2_with (at_builtin; refine wpList_app _ tyFields rfl (.tmp 85) (.tmp 87) rfl (bs + 1) _ _ _ rfl HLIT.out.1 _ _ 1 1 _ rfl HLIT.out.2 hone (by omega) (by simp; omega) ?_; intro v3 w8 hown8 hg8 _; obtain ⟨g, cap, rfl, cc1, ff1, G8⟩ := HGB.out.grown (f := f) hown8 hg8; have HG8 := hide G8; clear hown8 hg8 G8)
            go_roundw
            case rel => exact ⟨m - 1, _, _, lA, eA, _, _, fs ++ [f], by have := HM.out; congr 1; omega, by have := HM.out; simp; omega, HQ3, HG8.out⟩
            case measure => have := HM.out; simp [intOf]; omega
          · -- well
            have k1 : w6.cell? ⟨b, 1, none⟩ = some (.int .i64 0) := rd6.c1
            obtain ⟨q1, q2, q3⟩ := text_0 (r := (sz, l6, 0)) rfl hl
            have hl' : sz ≤ l6.length := by omega
            obtain ⟨A7, l7, hl7, s1, s2, hr7⟩ := rd_lo rd6.rd hl'
            obtain ⟨s3, s4, hr8⟩ := rd_hi rd6.rd hl'
            have hcv := fun W hW => run_str (P := Tryd.prog) (A := A6) (n := sz) (c := c6) (B := b) (l := l6.take sz) W Tryd.underlying34 Tryd.underlying5 Tryd.underlying9 hW
            have hcv1 := hcv w6 (by simpa [List.length_take, Nat.min_eq_left hl'] using hr8)
            have hcv2 := hcv w6.drew (by simpa [List.length_take, Nat.min_eq_left hl'] using hr8.drew)
            dsimp only at q2 q3
            rw [← hl7] at q3
            obtain ⟨nm, hnm⟩ : ∃ nm : ByteArray, nm = ⟨(l6.take sz).toArray⟩ := ⟨_, rfl⟩
            rw [← hnm] at q2 hcv1 hcv2
            have HNM' : Hid (textS (sz, l6, 0) = nm ∧ textL (sz, l6, 0) = l7 ∧ textE (sz, l6, 0) = 0) := hide ⟨q2, q3, q1⟩
            have HR := hide hr7
            have u1 := fb6.cell 1 _ rfl
            have u2 := fb6.free 1 (by simp)
            clear hcv q1 q2 q3 hl7 hr7 hr8 hnm
            go_wp2_with fail
            go_cut [] from 19 to 89 (fun wx => TextDone b bf wr fid nm l7 wx)
            case first =>
              go_region_with (fail)
              all_goals (try go_wp2_with fail)
              all_goals go_meet
              all_goals first | exact (td1 rd6 HR.out zb zf ho6' fb6).drew | exact td1 rd6 HR.out zb zf ho6' fb6 | exact td2 rd6 HR.out zb zf ho6' fb6 | exact (td2 rd6 HR.out zb zf ho6' fb6).drew
            case rest =>
              clear s1 s2 s3 s4 hcv1 hcv2 u1 u2 k0 k1 f0 f1 fb6 rd6 ho6' HR
              obtain ⟨⟨A7, c7, rd7⟩, ho7, fb7'⟩ := hcut
              go_wp2_with fail
              refine (schNum wc b A7 c7 l7 0 rd7 255 (by decide)).mono ?_
              rintro e w8 ⟨rfl, ⟨A8, c8, rd8⟩, ho8⟩
              have hle := num_le 255 l7 0
              obtain ⟨r2, hr⟩ : ∃ r2, num 255 l7 0 = r2 := ⟨_, rfl⟩
              rw [hr] at rd8 hle ⊢
              obtain ⟨a, l8, e8⟩ := r2
              dsimp only at rd8 hle ⊢
              obtain ⟨kd, rfl⟩ : ∃ kd : UInt8, a = kd.toNat := ⟨UInt8.ofNat a, (ofNat8 (by omega)).symm⟩
              have HF3 := hide hr
              have a8 : (kd.toNat : Int) % 256 = (kd.toNat : Int) := by omega
              have a8w : IntKind.u8.wrap (kd.toNat : Int) = (kd.toNat : Int) := by rw [IntKind.wrap_u8]; omega
              have fb8 := fb7'.oth ho8 (by omega)
              have ho8' := ho7.trans ho8
              have u1 := fb8.cell 2 _ rfl
              have u2 := fb8.free 2 (by simp)
              clear hr hle ho7 ho8 rd7 fb7'
              go_wp2_with fail
              have rd9 := rd8.elsewhere (p := ⟨bf, 2, none⟩) zb (.int .u8 (kd.toNat : Int))
              have ho9 := ho8'.setNew (p := ⟨bf, 2, none⟩) zf (.int .u8 (kd.toNat : Int))
              have fb9 := fb8.set (j := 2) (.int .u8 (kd.toNat : Int)) rfl
              clear u1 u2 rd8 ho8' fb8 a8 a8w
              generalize w8.setCell ⟨bf, 2, none⟩ (.int .u8 (kd.toNat : Int)) = w9 at *
              simp only [List.set_cons_succ, List.set_cons_zero] at fb9
              refine (schNum w9 b A8 c8 l8 e8 rd9 1 (by decide)).mono ?_
              rintro e wA ⟨rfl, ⟨AA, cA, rdA⟩, hoA⟩
              obtain ⟨r2, hr⟩ : ∃ r2, num 1 l8 e8 = r2 := ⟨_, rfl⟩
              rw [hr] at rdA ⊢
              obtain ⟨q, lA, eA⟩ := r2
              dsimp only at rdA ⊢
              have HF4 := hide hr
              obtain ⟨qb, hqb⟩ : ∃ qb, qb = decide (q = 1) := ⟨_, rfl⟩
              have hq1 : ((q : Int) == 1) = qb := by rw [hqb, Bool.eq_iff_iff]; simp; omega
              have HQB := hide hqb
              have fbA := fb9.oth hoA (by omega)
              have hoA' := ho9.trans hoA
              have u1 := fbA.cell 3 _ rfl
              have u2 := fbA.free 3 (by simp)
              have rdB := rdA.elsewhere (p := ⟨bf, 3, none⟩) zb (.bool qb)
              have hoB := hoA'.setNew (p := ⟨bf, 3, none⟩) zf (.bool qb)
              have GA := G.go rdA hoA'
              have GB := G.go rdB hoB
              have v1 := GA.bx.cell 1 _ rfl
              have x0 := fbA.cell 0 _ rfl
              have x1 := fbA.cell 1 _ rfl
              have x2 := fbA.cell 2 _ rfl
              have nbs : bs ≠ bf := by have := G.bx.z; omega
              have nbs' : bf ≠ bs := fun q => nbs q.symm
              obtain ⟨f, hf⟩ : ∃ f : Fd, f = ⟨fid, nm, kd, qb⟩ := ⟨_, rfl⟩
              have hfv : (#[.int .u32 (fid.toNat : Int), .string nm, .int .u8 (kd.toNat : Int), .bool qb] : Array Value).toList = fdV f := by rw [hf]; rfl
              have hone : ∀ u ∈ fdV f, u.oneCell' = true := fun u hu => fdsV_one [f] u (by simpa [fdsV] using hu)
              have hlit := GB.lit f (cs := #[.int .u32 (fid.toNat : Int), .string nm, .int .u8 (kd.toNat : Int), .bool qb]) hfv rfl
              rw [show (wA.setCell ⟨bf, 3, none⟩ (.bool qb)).heap.size = wA.heap.size by simp] at hlit
              have HLIT := hide hlit
              have hRF : rdF l' 0 = (f, lA, eA) := by
                have := rdF_of HF1.out HF2.out (e3 := e8) (l3 := l8) (kd := kd) (by rw [HNM'.out.2.1, HNM'.out.2.2]; exact HF3.out) HF4.out
                rw [this, hf, HQB.out, HNM'.out.1]
              have HQ3 : Hid (rdFs (m - 1) lA eA (fs ++ [f]) = Q) := hide (by have := HQ2.out; rw [hRF] at this; exact this)
              have hbz : bs + 1 ≤ wA.heap.size := GA.bx.z
              have HGB := hide GB
              have hw1 : IntKind.u64.wrap ((m : Int) - 1) = (m : Int) - 1 := by have := HM.out; rw [IntKind.wrap_u64]; omega
              have hw2 : ((m : Int) - 1) % 18446744073709551616 = (m : Int) - 1 := by have := HM.out; omega
              clear hr ho9 hoA rd9 fb9 hqb hlit hRF hfv hf GA GB G rdB hoB rdA hoA'
              go_wp2_with (at_builtin; refine wpList_app _ tyFields rfl (.tmp 85) (.tmp 87) rfl (bs + 1) _ _ _ rfl HLIT.out.1 _ _ 1 1 _ rfl HLIT.out.2 hone (by omega) (by simp; omega) ?_; intro v3 w8 hown8 hg8 _; obtain ⟨g, cap, rfl, cc1, ff1, G8⟩ := HGB.out.grown (f := f) hown8 hg8; have HG8 := hide G8; clear hown8 hg8 G8)
              go_roundw
              case rel => exact ⟨m - 1, _, _, lA, eA, _, _, fs ++ [f], by have := HM.out; congr 1; omega, by have := HM.out; simp; omega, HQ3, HG8.out⟩
              case measure => have := HM.out; simp [intOf]; omega
        · -- e6
          have k1 := rd6.c1
          obtain ⟨q1, q2, q3⟩ := text_e (r := (sz, l6, e6)) he6
          have t2 : ((e6 : Int) == 0) = false := by rw [beq_eq_false_iff_ne]; omega
          have rd7 := rd6
          have ho7 := ho6'
          have HNM' : Hid (textS (sz, l6, e6) = ⟨#[]⟩ ∧ textL (sz, l6, e6) = l6 ∧ textE (sz, l6, e6) = e6) := hide ⟨q2, q3, q1⟩
          have fb7' := fb6
          clear q1 q2 q3 rd6 fb6 ho6' he6
          go_wp2_with fail
          clear k0 k1 f0 f1
          refine (schNum w6 b A6 c6 l6 e6 rd7 255 (by decide)).mono ?_
          rintro e w8 ⟨rfl, ⟨A8, c8, rd8⟩, ho8⟩
          have hle := num_le 255 l6 e6
          obtain ⟨r2, hr⟩ : ∃ r2, num 255 l6 e6 = r2 := ⟨_, rfl⟩
          rw [hr] at rd8 hle ⊢
          obtain ⟨a, l8, e8⟩ := r2
          dsimp only at rd8 hle ⊢
          obtain ⟨kd, rfl⟩ : ∃ kd : UInt8, a = kd.toNat := ⟨UInt8.ofNat a, (ofNat8 (by omega)).symm⟩
          have HF3 := hide hr
          have a8 : (kd.toNat : Int) % 256 = (kd.toNat : Int) := by omega
          have a8w : IntKind.u8.wrap (kd.toNat : Int) = (kd.toNat : Int) := by rw [IntKind.wrap_u8]; omega
          have fb8 := fb7'.oth ho8 (by omega)
          have ho8' := ho7.trans ho8
          have u1 := fb8.cell 2 _ rfl
          have u2 := fb8.free 2 (by simp)
          clear hr hle ho7 ho8 rd7 fb7'
          go_wp2_with fail
          have rd9 := rd8.elsewhere (p := ⟨bf, 2, none⟩) zb (.int .u8 (kd.toNat : Int))
          have ho9 := ho8'.setNew (p := ⟨bf, 2, none⟩) zf (.int .u8 (kd.toNat : Int))
          have fb9 := fb8.set (j := 2) (.int .u8 (kd.toNat : Int)) rfl
          clear u1 u2 rd8 ho8' fb8 a8 a8w
          generalize w8.setCell ⟨bf, 2, none⟩ (.int .u8 (kd.toNat : Int)) = w9 at *
          simp only [List.set_cons_succ, List.set_cons_zero] at fb9
          refine (schNum w9 b A8 c8 l8 e8 rd9 1 (by decide)).mono ?_
          rintro e wA ⟨rfl, ⟨AA, cA, rdA⟩, hoA⟩
          obtain ⟨r2, hr⟩ : ∃ r2, num 1 l8 e8 = r2 := ⟨_, rfl⟩
          rw [hr] at rdA ⊢
          obtain ⟨q, lA, eA⟩ := r2
          dsimp only at rdA ⊢
          have HF4 := hide hr
          obtain ⟨qb, hqb⟩ : ∃ qb, qb = decide (q = 1) := ⟨_, rfl⟩
          have hq1 : ((q : Int) == 1) = qb := by rw [hqb, Bool.eq_iff_iff]; simp; omega
          have HQB := hide hqb
          have fbA := fb9.oth hoA (by omega)
          have hoA' := ho9.trans hoA
          have u1 := fbA.cell 3 _ rfl
          have u2 := fbA.free 3 (by simp)
          have rdB := rdA.elsewhere (p := ⟨bf, 3, none⟩) zb (.bool qb)
          have hoB := hoA'.setNew (p := ⟨bf, 3, none⟩) zf (.bool qb)
          have GA := G.go rdA hoA'
          have GB := G.go rdB hoB
          have v1 := GA.bx.cell 1 _ rfl
          have x0 := fbA.cell 0 _ rfl
          have x1 := fbA.cell 1 _ rfl
          have x2 := fbA.cell 2 _ rfl
          have nbs : bs ≠ bf := by have := G.bx.z; omega
          have nbs' : bf ≠ bs := fun q => nbs q.symm
          obtain ⟨f, hf⟩ : ∃ f : Fd, f = ⟨fid, ⟨#[]⟩, kd, qb⟩ := ⟨_, rfl⟩
          have hfv : (#[.int .u32 (fid.toNat : Int), .string ⟨#[]⟩, .int .u8 (kd.toNat : Int), .bool qb] : Array Value).toList = fdV f := by rw [hf]; rfl
          have hone : ∀ u ∈ fdV f, u.oneCell' = true := fun u hu => fdsV_one [f] u (by simpa [fdsV] using hu)
          have hlit := GB.lit f (cs := #[.int .u32 (fid.toNat : Int), .string ⟨#[]⟩, .int .u8 (kd.toNat : Int), .bool qb]) hfv rfl
          rw [show (wA.setCell ⟨bf, 3, none⟩ (.bool qb)).heap.size = wA.heap.size by simp] at hlit
          have HLIT := hide hlit
          have hRF : rdF l' 0 = (f, lA, eA) := by
            have := rdF_of HF1.out HF2.out (e3 := e8) (l3 := l8) (kd := kd) (by rw [HNM'.out.2.1, HNM'.out.2.2]; exact HF3.out) HF4.out
            rw [this, hf, HQB.out, HNM'.out.1]
          have HQ3 : Hid (rdFs (m - 1) lA eA (fs ++ [f]) = Q) := hide (by have := HQ2.out; rw [hRF] at this; exact this)
          have hbz : bs + 1 ≤ wA.heap.size := GA.bx.z
          have HGB := hide GB
          have hw1 : IntKind.u64.wrap ((m : Int) - 1) = (m : Int) - 1 := by have := HM.out; rw [IntKind.wrap_u64]; omega
          have hw2 : ((m : Int) - 1) % 18446744073709551616 = (m : Int) - 1 := by have := HM.out; omega
          clear hr ho9 hoA rd9 fb9 hqb hlit hRF hfv hf GA GB G rdB hoB rdA hoA'
          go_wp2_with (at_builtin; refine wpList_app _ tyFields rfl (.tmp 85) (.tmp 87) rfl (bs + 1) _ _ _ rfl HLIT.out.1 _ _ 1 1 _ rfl HLIT.out.2 hone (by omega) (by simp; omega) ?_; intro v3 w8 hown8 hg8 _; obtain ⟨g, cap, rfl, cc1, ff1, G8⟩ := HGB.out.grown (f := f) hown8 hg8; have HG8 := hide G8; clear hown8 hg8 G8)
          go_roundw
          case rel => exact ⟨m - 1, _, _, lA, eA, _, _, fs ++ [f], by have := HM.out; congr 1; omega, by have := HM.out; simp; omega, HQ3, HG8.out⟩
          case measure => have := HM.out; simp [intOf]; omega
    · -- THE END, with an error
      have hq := rdFs_end (m := m) (l := l') (e := e') (fs := fs) (.inr he)
      have hQ2 := hrd.out
      rw [hq] at hQ2
      have HQ2 := hide hQ2
      have HS0 : Hid ((rdS l 0).err = e' ∧ (rdS l 0).err ≠ 0) := hide (by have := rdS_of HA.out HN.out (HQ.out.trans HQ2.out.symm); rw [if_neg he] at this; rw [this]; exact ⟨rfl, he⟩)
      have t2 : ((e' : Int) == 0) = false := by rw [beq_eq_false_iff_ne]; omega
      have t3 : ((e' : Int) != 0) = true := by rw [bne_iff_ne]; omega
      have k1 := G.rd.c1
      have GX' := hide G
      generalize e' = ck at *
      rcases Nat.eq_zero_or_pos m with t1 | t1
      · have t4 : ¬ 0 < m := by omega
        have HT := hide t1
        clear G hq hQ2 he t1
        go_wp2_with fail
        have GX := GX'.out
        have e0 := GX.rd.c1
        have e3 := GX.rb.cell 0 _ rfl
        have e4 := GX.rb.cell 1 _ rfl
        have e5 := GX.rb.free 0 (by simp)
        have e6 := GX.rb.free 1 (by simp)
        have n1' : b ≠ B0 := by omega
        have n2' : B0 ≠ b := by omega
        clear GX
        clear k1
        generalize wr = w6 at *
        go_region_held3 (fun w' => w'.cell? ⟨b, 1, none⟩ = some (.int .i64 (ck : Int))) (first | exact e0 | exact set2_keep n1' e0 _ _ | go_keep) (fail)
        all_goals (try go_wp2_with fail)
        all_goals (try simp only [Exit.inBlock, Exit.then])
        all_goals
          obtain ⟨y1, _, y3, y4, y5⟩ := (GX'.out.call ((Below.refl _ w6).drew)).fin (.int .u32 0) (.slice none 0 0)
          refine bodyPost_ret (ret_sch3 (b := B0) (x := .int .u32 0) (y := .slice none 0 0) rfl _ _ rfl y4 y5) rfl ?_
          obtain ⟨q1, q2, q3⟩ := unp_bad HS0.out.2
          refine ⟨none, 0, none, 0, ?_, ?_, ?_, (y3 hB0').belowB hbw (Nat.le_refl _)⟩
          · rw [q1, q2, q3, HS0.out.1]; rfl
          · rw [q2]; exact World.ownsRow_nil _ _ _ _
          · rw [q3]; exact World.ownsRow_nil _ _ _ _
      · have t4 : decide ((0 : Int) < (m : Int)) = true := decide_eq_true (by omega)
        clear G hq hQ2 he
        go_wp2_with fail
        have GX := GX'.out
        have e0 := GX.rd.c1
        have e3 := GX.rb.cell 0 _ rfl
        have e4 := GX.rb.cell 1 _ rfl
        have e5 := GX.rb.free 0 (by simp)
        have e6 := GX.rb.free 1 (by simp)
        have n1' : b ≠ B0 := by omega
        have n2' : B0 ≠ b := by omega
        clear GX
        clear k1
        generalize wr = w6 at *
        go_region_held3 (fun w' => w'.cell? ⟨b, 1, none⟩ = some (.int .i64 (ck : Int))) (first | exact e0 | exact set2_keep n1' e0 _ _ | go_keep) (fail)
        all_goals (try go_wp2_with fail)
        all_goals (try simp only [Exit.inBlock, Exit.then])
        all_goals
          obtain ⟨y1, _, y3, y4, y5⟩ := (GX'.out.call ((Below.refl _ w6).drew)).fin (.int .u32 0) (.slice none 0 0)
          refine bodyPost_ret (ret_sch3 (b := B0) (x := .int .u32 0) (y := .slice none 0 0) rfl _ _ rfl y4 y5) rfl ?_
          obtain ⟨q1, q2, q3⟩ := unp_bad HS0.out.2
          refine ⟨none, 0, none, 0, ?_, ?_, ?_, (y3 hB0').belowB hbw (Nat.le_refl _)⟩
          · rw [q1, q2, q3, HS0.out.1]; rfl
          · rw [q2]; exact World.ownsRow_nil _ _ _ _
          · rw [q3]; exact World.ownsRow_nil _ _ _ _
end
end Go.Proofs.YtlccpchlclpnaaaDoor
