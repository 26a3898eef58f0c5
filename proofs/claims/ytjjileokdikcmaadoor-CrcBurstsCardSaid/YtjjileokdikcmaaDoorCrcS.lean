/- THE WALKS of package crc, more: Seal, Open; of slices.Clone and slices.Equal of bytes. -/
import Derived.Test.YtjjileokdikcmaaDoorCrcW
namespace Go.Proofs.YtjjileokdikcmaaDoor
open Go.RowKit

theorem cloneBytes (w : World) (B n c : Nat) (A : Option Addr) (xs : List Value) (hr : Rd w B 1 A n c xs) (h1 : ∀ u ∈ xs, u.oneCell' = true) (hb : n * 1 ≤ 140737488355328) (hB : B ≤ w.heap.size) :
    Calls Tryd.prog 16 #[.slice A n c] w (RetRow w 5 1 n xs) := by
  have heq := fun W => Lib.run_eql_slice_nil (P := Tryd.prog) W 23 5 A n c 0 0 Tryd.underlying23
  cases A with
  | none =>
    obtain ⟨rfl, rfl⟩ := hr.none_
    go_enter Tryd.func16, Tryd.ntmps16
    go_wp2_with fail
    go_ret
    exact ⟨_, rfl, World.ownsRow_nil _ _ _ _, Below.refl _ _⟩
  | some ad =>
    have hlit := own_lit w (base := w.heap.size) 5 1 0 #[] (Nat.le_refl _) (by decide) rfl
    have hr' := hr.alloc hB (.cells #[] 5)
    go_enter Tryd.func16, Tryd.ntmps16
    go_wp2_with (at_builtin; refine wpList_app _ tyBytes rfl _ _ rfl w.heap.size _ 0 [] rfl hlit B (some ad) _ c _ rfl hr' h1 (by omega) (by simp) ?_; intro v2 w2 hown2 hg2 _; simp only [Nat.zero_add, List.nil_append] at hown2; have hb2 := below_app ((Below.refl w.heap.size w).alloc (Nat.le_refl _) (.cells #[] 5)) (Nat.le_refl _) hlit hg2 (by simp))
    go_ret
    exact ⟨v2, rfl, hown2, hb2⟩

/-- the sum's four bytes, the lowest first -/
def le4 (c : Crc.W) : List UInt8 := [UInt8.ofNat c.toNat, UInt8.ofNat (c.toNat / 256), UInt8.ofNat (c.toNat / 65536), UInt8.ofNat (c.toNat / 16777216)]
def seal_ (l : List UInt8) : List UInt8 := l ++ le4 (Crc.crc l)

theorem crcSeal (w : World) (n c : Nat) (A : Option Addr) (l : List UInt8) (hr : Rd w w.heap.size 1 A n c (bytesV l)) (ht : Table w) (hl : l.length ≤ 1000000) :
    Calls Tryd.prog 12 #[.slice A n c] w (RetBytes w (seal_ l)) := by
  obtain rfl : n = l.length := by have := hr.len; rw [bytesV_length] at this; omega
  have HT := hide ht
  clear ht
  go_enter Tryd.func12, Tryd.ntmps12
  go_wp2_with fail
  refine (crcOf w _ _ c A l hr HT.out).mono ?_
  rintro e w1 ⟨rfl, rfl⟩
  go_wp2_with fail
  refine (cloneBytes w _ _ c A _ hr (bytesV_one _) (by omega) (Nat.le_refl _)).mono ?_
  rintro e w2 ⟨v2, rfl, hown2, hb2⟩
  have hq := word_lt (Crc.crc l)
  have hlen := hown2.1
  go_wp2_with (at_builtin; refine wpList_app _ tyBytes rfl _ _ rfl w.heap.size v2 _ _ rfl (hown2.alloc _) (w2.heap.size + 1) _ 4 4 _ rfl (Rd.lit w2 5 _ rfl (by decide)) ?h1 ?h2 ?h3 ?_)
  case h1 => exact ⟨rfl, rfl, rfl, rfl⟩
  case h2 => omega
  case h3 => have := hb2.size; simp; omega
  intro v3 w3 hown3 hg3 _
  have hb3 := below_app (hb2.alloc hb2.size _) (Nat.le_refl _) (hown2.alloc _) hg3 (by have := hb2.size; simp; omega)
  have e4 : bytesV l ++ #[Value.int .u8 (((Crc.crc l).toNat : Int) % 256), .int .u8 (((Crc.crc l).toNat : Int) / 256 % 256), .int .u8 (((Crc.crc l).toNat : Int) / 65536 % 256), .int .u8 (((Crc.crc l).toNat : Int) / 16777216)].toList = bytesV (seal_ l) := by
    unfold seal_ le4
    rw [bytesV_append]
    congr 1
    simp only [bytesV, List.map_cons, List.map_nil, byteV, UInt8.toNat_ofNat', List.cons.injEq, and_true, Value.int.injEq, true_and]
    refine ⟨by omega, by omega, by omega, by omega⟩
  rw [e4] at hown3
  clear hg3 hown2 e4
  go_wp2
  go_ret
  exact ⟨v3, rfl, by simpa [seal_, le4] using hown3, hb3⟩

set_option maxRecDepth 100000 in
theorem equalBytes (w : World) (B n c m d : Nat) (A A' : Option Addr) (la lb : List UInt8) (ha : Rd w B 1 A n c (bytesV la)) (hb : Rd w B 1 A' m d (bytesV lb)) (hB : B ≤ w.heap.size) :
    Calls Tryd.prog 17 #[.slice A n c, .slice A' m d] w (RetVal w (.bool (la == lb))) := by
  obtain rfl : n = la.length := by have := ha.len; rw [bytesV_length] at this; omega
  obtain rfl : m = lb.length := by have := hb.len; rw [bytesV_length] at this; omega
  have hmax : la.length ≤ 9223372036854775807 := by have h1 := ha.le; have h2 := ha.cap; unfold maxLen at h2; omega
  by_cases hlen : la.length = lb.length
  · have t1 : ((la.length : Int) == (lb.length : Int)) = true := by simp; omega
    have t1' : ((la.length : Int) != (lb.length : Int)) = false := by simp; omega
    have HL := hide hlen
    clear hlen
    go_enter Tryd.func17, Tryd.ntmps17
    go_wp2_with fail
    go_loopw [13] (fun iv wr => ∃ k : Nat, k ≤ la.length ∧ iv = .int .i64 k ∧ Hid (la.take k = lb.take k) ∧ Below w.heap.size w wr) (fun iv _ => la.length - (intOf iv).toNat)
    case atStart => exact ⟨0, Nat.zero_le _, rfl, hide rfl, Below.refl _ _⟩
    case round =>
      obtain ⟨k, hk, rfl, hpre, hbr⟩ := hrel
      by_cases hlt : k < la.length
      · have hlt2 : k < lb.length := by have := HL.out; omega
        obtain ⟨b1, o1, rfl, q1, c1⟩ := ha.cellAt (k := k) (by rw [bytesV_length]; exact hlt)
        obtain ⟨b2, o2, rfl, q2, c2⟩ := hb.cellAt (k := k) (by rw [bytesV_length]; exact hlt2)
        obtain ⟨x, hx⟩ : ∃ x : UInt8, x = la[k] := ⟨_, rfl⟩
        obtain ⟨y, hy⟩ : ∃ y : UInt8, y = lb[k] := ⟨_, rfl⟩
        have c1' : wr.cell? ⟨b1, o1 + k, none⟩ = some (.int .u8 (x.toNat : Int)) := (hbr.cell (p := ⟨b1, o1 + k, none⟩) (Nat.lt_of_lt_of_le q1 hB)).trans (by rw [c1, hx]; simp [bytesV, byteV])
        have c2' : wr.cell? ⟨b2, o2 + k, none⟩ = some (.int .u8 (y.toNat : Int)) := (hbr.cell (p := ⟨b2, o2 + k, none⟩) (Nat.lt_of_lt_of_le q2 hB)).trans (by rw [c2, hy]; simp [bytesV, byteV])
        have z1 : b1 < wr.heap.size := Nat.lt_of_lt_of_le (Nat.lt_of_lt_of_le q1 hB) hbr.size
        have z2 : b2 < wr.heap.size := Nat.lt_of_lt_of_le (Nat.lt_of_lt_of_le q2 hB) hbr.size
        have HX := hide hx
        have HY := hide hy
        clear c1 c2 hx hy
        by_cases hxy : x = y
        · have t2 : ((x.toNat : Int) != (y.toNat : Int)) = false := by rw [hxy]; simp
          have hpre' := hide (show la.take (k + 1) = lb.take (k + 1) by rw [List.take_succ_eq_append_getElem hlt, List.take_succ_eq_append_getElem hlt2, hpre.out, ← HX.out, ← HY.out, hxy])
          clear hxy
          go_wp2_with fail
          refine wp_region_abs ext_grow (by kernel_rfl) (by kernel_rfl) ?_
          simp only [List.map_cons, List.map_nil]
          refine wpA_value ext_grow ?_ (fun _ _ h => by cases h) rfl rfl ?_ ?_
          rotate_left 1
          · intro w' hw' C hC
            go_simp
            try go_bits
            exact hC
          simp only [putS, List.set_cons_succ, List.set_cons_zero]
          refine wpA_value ext_grow ?_ (fun _ _ h => by cases h) rfl rfl ?_ ?_
          rotate_left 1
          · intro w' hw' C hC
            go_simp
            try go_bits
            exact hC
          simp only [putS, List.set_cons_succ, List.set_cons_zero]
          refine wpA_value ext_grow ?_ (fun _ _ h => by cases h) rfl rfl ?_ ?_
          rotate_left 1
          · intro w' hw' C hC
            go_simp
            try go_bits
            exact hC
          simp only [putS, List.set_cons_succ, List.set_cons_zero]
          refine wpA_value ext_grow ?_ (fun _ _ h => by cases h) rfl rfl ?_ ?_
          rotate_left 1
          · intro w' hw' C hC
            have hcw := (hw'.cell (p := ⟨b1, o1 + k, none⟩) z1).trans c1'
            go_simp
            try go_bits
            exact hC
          simp only [putS, List.set_cons_succ, List.set_cons_zero]
          refine wpA_value ext_grow ?_ (fun _ _ h => by cases h) rfl rfl ?_ ?_
          rotate_left 1
          · intro w' hw' C hC
            go_simp
            try go_bits
            exact hC
          simp only [putS, List.set_cons_succ, List.set_cons_zero]
          refine wpA_value ext_grow ?_ (fun _ _ h => by cases h) rfl rfl ?_ ?_
          rotate_left 1
          · intro w' hw' C hC
            go_simp
            try go_bits
            exact hC
          simp only [putS, List.set_cons_succ, List.set_cons_zero]
          refine wpA_value ext_grow ?_ (fun _ _ h => by cases h) rfl rfl ?_ ?_
          rotate_left 1
          · intro w' hw' C hC
            go_simp
            try go_bits
            exact hC
          simp only [putS, List.set_cons_succ, List.set_cons_zero]
          refine wpA_value ext_grow ?_ (fun _ _ h => by cases h) rfl rfl ?_ ?_
          rotate_left 1
          · intro w' hw' C hC
            have hcw := (hw'.cell (p := ⟨b2, o2 + k, none⟩) z2).trans c2'
            go_simp
            try go_bits
            exact hC
          simp only [putS, List.set_cons_succ, List.set_cons_zero]
          refine wpA_value ext_grow ?_ (fun _ _ h => by cases h) rfl rfl ?_ ?_
          rotate_left 1
          · intro w' hw' C hC
            go_simp
            try go_bits
            exact hC
          simp only [putS, List.set_cons_succ, List.set_cons_zero]
          intro w' hw'
          simp only [openS]
          go_wp2
          go_roundw
          case rel => exact ⟨k + 1, by omega, by go_num, hpre', hbr.trans ((below_of_drew hw').mono hbr.size)⟩
          case measure => simp [intOf]; omega
        · have t2 : ((x.toNat : Int) != (y.toNat : Int)) = true := by simp; intro h; exact hxy (UInt8.toNat_inj.1 (by omega))
          have hne := hide (show (la == lb) = false from beq_eq_false_iff_ne.2 fun h => hxy (by rw [HX.out, HY.out]; simp only [h]))
          clear hxy
          go_wp2_with fail
          refine wp_region_abs ext_grow (by kernel_rfl) (by kernel_rfl) ?_
          simp only [List.map_cons, List.map_nil]
          refine wpA_value ext_grow ?_ (fun _ _ h => by cases h) rfl rfl ?_ ?_
          rotate_left 1
          · intro w' hw' C hC
            go_simp
            try go_bits
            exact hC
          simp only [putS, List.set_cons_succ, List.set_cons_zero]
          refine wpA_value ext_grow ?_ (fun _ _ h => by cases h) rfl rfl ?_ ?_
          rotate_left 1
          · intro w' hw' C hC
            go_simp
            try go_bits
            exact hC
          simp only [putS, List.set_cons_succ, List.set_cons_zero]
          refine wpA_value ext_grow ?_ (fun _ _ h => by cases h) rfl rfl ?_ ?_
          rotate_left 1
          · intro w' hw' C hC
            go_simp
            try go_bits
            exact hC
          simp only [putS, List.set_cons_succ, List.set_cons_zero]
          refine wpA_value ext_grow ?_ (fun _ _ h => by cases h) rfl rfl ?_ ?_
          rotate_left 1
          · intro w' hw' C hC
            have hcw := (hw'.cell (p := ⟨b1, o1 + k, none⟩) z1).trans c1'
            go_simp
            try go_bits
            exact hC
          simp only [putS, List.set_cons_succ, List.set_cons_zero]
          refine wpA_value ext_grow ?_ (fun _ _ h => by cases h) rfl rfl ?_ ?_
          rotate_left 1
          · intro w' hw' C hC
            go_simp
            try go_bits
            exact hC
          simp only [putS, List.set_cons_succ, List.set_cons_zero]
          refine wpA_value ext_grow ?_ (fun _ _ h => by cases h) rfl rfl ?_ ?_
          rotate_left 1
          · intro w' hw' C hC
            go_simp
            try go_bits
            exact hC
          simp only [putS, List.set_cons_succ, List.set_cons_zero]
          refine wpA_value ext_grow ?_ (fun _ _ h => by cases h) rfl rfl ?_ ?_
          rotate_left 1
          · intro w' hw' C hC
            go_simp
            try go_bits
            exact hC
          simp only [putS, List.set_cons_succ, List.set_cons_zero]
          refine wpA_value ext_grow ?_ (fun _ _ h => by cases h) rfl rfl ?_ ?_
          rotate_left 1
          · intro w' hw' C hC
            have hcw := (hw'.cell (p := ⟨b2, o2 + k, none⟩) z2).trans c2'
            go_simp
            try go_bits
            exact hC
          simp only [putS, List.set_cons_succ, List.set_cons_zero]
          refine wpA_value ext_grow ?_ (fun _ _ h => by cases h) rfl rfl ?_ ?_
          rotate_left 1
          · intro w' hw' C hC
            go_simp
            try go_bits
            exact hC
          simp only [putS, List.set_cons_succ, List.set_cons_zero]
          intro w' hw'
          simp only [openS]
          go_wp2
          go_ret
          exact ⟨by rw [hne.out]; rfl, hbr.trans ((below_of_drew hw').mono hbr.size)⟩
      · have heq := hide (show (la == lb) = true from beq_iff_eq.2 (by have h1 := hpre.out; have h2 := HL.out; rw [List.take_of_length_le (by omega), List.take_of_length_le (by omega)] at h1; exact h1))
        go_wp2_with fail
        go_ret
        exact ⟨by rw [heq.out]; rfl, hbr⟩
  · have t1 : ((la.length : Int) != (lb.length : Int)) = true := by simp; omega
    have hne := hide (show (la == lb) = false from beq_eq_false_iff_ne.2 fun h => hlen (by rw [h]))
    clear hlen
    go_enter Tryd.func17, Tryd.ntmps17
    go_wp2_with fail
    go_ret
    exact ⟨by rw [hne.out]; rfl, Below.refl _ _⟩
end Go.Proofs.YtjjileokdikcmaaDoor
