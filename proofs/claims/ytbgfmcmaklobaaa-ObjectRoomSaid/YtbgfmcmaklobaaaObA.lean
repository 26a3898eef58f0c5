/- THE WALK of alive: the document's example of a store. No statement of the seat is proved here; no condition. -/
import Derived.Test.YtbgfmcmaklobaaaObR
namespace Go.Proofs.Ytbgfmcmaklobaaa
open Go.RowKit

theorem looseM_sorted {m : Mp} (h : (keysM m).Pairwise (fun a b => leB a b = true)) : looseM m = ((keysM m).map nmOf).filter (looseAt m) := by
  unfold looseM namesM
  rw [List.mergeSort_of_pairwise h]
def xyz : List UInt8 := [120, 121, 122]
def nmA : ByteArray := ⟨#[97]⟩
def nmB : ByteArray := ⟨#[98]⟩
def nmC : ByteArray := ⟨#[99]⟩
def a1 : So := ⟨10, 3, [(nmA, ⟨[120, 121, 122], true⟩)], ⟨#[]⟩, -1, -1, false⟩
def a2 : So := ⟨10, 3, [(nmA, ⟨[120, 121, 122], false⟩)], ⟨#[]⟩, -1, -1, false⟩
def a3 : So := ⟨10, 5, [(nmA, ⟨[120, 121, 122], false⟩), (nmC, ⟨[117, 118], true⟩)], ⟨#[]⟩, -1, -1, false⟩
def a4 : So := ⟨10, 4, [(nmA, ⟨[120, 121, 122], false⟩), (nmC, ⟨[117], false⟩)], ⟨#[]⟩, -1, -1, false⟩
def a5 : So := ⟨10, 4, [(nmA, ⟨[120, 121, 122], false⟩), (nmC, ⟨[117], false⟩)], nmA, -1, -1, false⟩
def a6 : So := ⟨10, 4, [(nmA, ⟨[120, 121, 122], false⟩), (nmC, ⟨[117], false⟩)], nmA, 0, -1, false⟩
def a7 : So := ⟨10, 4, [(nmA, ⟨[120, 121, 122], false⟩), (nmC, ⟨[117], false⟩)], nmA, 0, -1, true⟩
def a8 : So := ⟨10, 4, [(nmA, ⟨[120, 121, 122], false⟩), (nmC, ⟨[117], false⟩)], nmA, -1, -1, false⟩
theorem e1 : (So.new 10).put nmA [120, 121, 122] = (a1, 0) := by
  have hp : pathOk nmA = true := by decide +kernel
  simp [So.put, So.new, hp, mhas, mget, So.change, So.add, mput, mdel, a1]
  rw [if_neg (by decide)]
  rfl
theorem e2 : a1.put nmA [120] = (a1, 3) := by
  have hp : pathOk nmA = true := by decide +kernel
  simp [So.put, a1, hp, mhas, mget, keyIs]
theorem e3 : a1.put nmB (List.replicate 8 0) = (a1, 122) := by
  have hp : pathOk nmB = true := by decide +kernel
  have hk : keyIs nmB (nmA, ⟨[120, 121, 122], true⟩) = false := by unfold keyIs; simp only [ByteArray.toList_eq]; decide +kernel
  simp [So.put, a1, hp, mhas, mget, hk]
theorem e4 : a1.sync nmA = (a2, 0) := by
  simp [So.sync, a1, a2, mget, keyIs, So.change, mput, mdel]
  decide
theorem e5 : a2.put nmC [117, 118] = (a3, 0) := by
  have hp : pathOk nmC = true := by decide +kernel
  have hk : keyIs nmC (nmA, ⟨[120, 121, 122], false⟩) = false := by unfold keyIs; simp only [ByteArray.toList_eq]; decide +kernel
  simp [So.put, a2, hp, mhas, mget, hk, So.change, So.add, mput, mdel, a3]
  decide
theorem l3 : looseM a3.m = [nmC] := by
  rw [looseM_sorted (by decide +kernel)]
  have hk : keyIs nmC (nmA, ⟨[120, 121, 122], false⟩) = false := by unfold keyIs; simp only [ByteArray.toList_eq]; decide +kernel
  have k1 : keyIs nmA (nmA, ⟨[120, 121, 122], false⟩) = true := by unfold keyIs; exact beq_self_eq_true _
  have k2 : keyIs nmC (nmC, ⟨[117, 118], true⟩) = true := by unfold keyIs; exact beq_self_eq_true _
  have e1 : (keysM a3.m).map nmOf = [nmA, nmC] := rfl
  have e2 : looseAt a3.m nmA = false := by simp [looseAt, mget, a3, k1]
  have e3 : looseAt a3.m nmC = true := by simp [looseAt, mget, a3, hk, k2]
  rw [e1]
  simp [e2, e3]
theorem e6 : a3.crash [1] = a4 := by
  unfold So.crash
  rw [l3]
  have hk : keyIs nmC (nmA, ⟨[120, 121, 122], false⟩) = false := by unfold keyIs; simp only [ByteArray.toList_eq]; decide +kernel
  have k2 : keyIs nmC (nmC, ⟨[117, 118], true⟩) = true := by unfold keyIs; exact beq_self_eq_true _
  simp [crashN, crashAt, So.trunc, mget, a3, a4, hk, k2, mput, mdel]
theorem e7 : a4.get nmC = ([117], 0) := by
  have hk : keyIs nmC (nmA, ⟨[120, 121, 122], false⟩) = false := by unfold keyIs; simp only [ByteArray.toList_eq]; decide +kernel
  have k2 : keyIs nmC (nmC, ⟨[117], false⟩) = true := by unfold keyIs; exact beq_self_eq_true _
  simp [So.get, a4, mget, hk, k2]
theorem e8 : a4.swap ⟨#[]⟩ nmA = (a5, 0) := by
  have hp : pathOk nmA = true := by decide +kernel
  simp [So.swap, a4, a5, hp, So.change]
  decide
theorem e9 : a5.swap ⟨#[]⟩ nmC = (a5, 123) := by
  have hk : (nmA.toList == (⟨#[]⟩ : ByteArray).toList) = false := by simp only [ByteArray.toList_eq]; decide +kernel
  unfold So.swap
  rw [if_neg (by simp [a5]), if_pos (by show (nmA.toList == _) = false; exact hk)]
theorem e10 : { a5 with fuse := max 0 (-1) } = a6 := rfl
theorem e11 : a6.del nmA = (a7, 120) := by
  have k1 : keyIs nmA (nmA, ⟨[120, 121, 122], false⟩) = true := by unfold keyIs; exact beq_self_eq_true _
  simp [So.del, a6, a7, mhas, mget, k1, So.change]
theorem e12 : a7.get nmA = ([], 120) := rfl
theorem l7 : looseM a7.m = [] := by
  rw [looseM_sorted (by decide +kernel)]
  have hk : keyIs nmC (nmA, ⟨[120, 121, 122], false⟩) = false := by unfold keyIs; simp only [ByteArray.toList_eq]; decide +kernel
  have k1 : keyIs nmA (nmA, ⟨[120, 121, 122], false⟩) = true := by unfold keyIs; exact beq_self_eq_true _
  have k2 : keyIs nmC (nmC, ⟨[117], false⟩) = true := by unfold keyIs; exact beq_self_eq_true _
  have e1 : (keysM a7.m).map nmOf = [nmA, nmC] := rfl
  have e2 : looseAt a7.m nmA = false := by simp [looseAt, mget, a7, k1]
  have e3 : looseAt a7.m nmC = false := by simp [looseAt, mget, a7, hk, k2]
  rw [e1]
  simp [e2, e3]
theorem e13 : a7.crash [] = a8 := by
  unfold So.crash
  rw [l7]
  rfl
theorem e14 : a8.get nmA = ([120, 121, 122], 0) := by
  have k1 : keyIs nmA (nmA, ⟨[120, 121, 122], false⟩) = true := by unfold keyIs; exact beq_self_eq_true _
  simp [So.get, a8, mget, k1]
/- the walk (printed) -/
theorem rdp_lit {P : Nat → Prop} (w : World) (C : Array Value) (m : Nat × Nat) (l : List UInt8) (h : C.toList = bytesV l) (hl : l.length ≤ maxLen) (hp : P w.heap.size) : RdP (w.alloc (.cells C 5 m)) P (some ⟨w.heap.size, 0, none⟩) l.length l.length l :=
  ⟨⟨by simp [bytesV], Nat.le_refl _, hl, fun _ => ⟨w.heap.size, 0, rfl, by simp, fun j u hj => by
    rw [Nat.zero_add, World.cell?_alloc_mark, ← Array.getElem?_toList, h]
    exact hj⟩⟩, fun _ => ⟨_, 0, rfl, hp⟩⟩
theorem Rd.ost {w w' : World} {sb mb sz n c b off : Nat} {xs : List Value} (h : Rd w w.heap.size sz (some ⟨b, off, none⟩) n c xs) (ho : Ost sb mb w w') (h1 : b ≠ sb) (h2 : b ≠ mb) : Rd w' w'.heap.size sz (some ⟨b, off, none⟩) n c xs :=
  ⟨h.len, h.le, h.cap, fun hn => by
    obtain ⟨b2, off2, e, hb, hc⟩ := h.at_ hn
    injection e with e
    injection e with e1 e2
    subst e1 e2
    exact ⟨b, off, rfl, Nat.lt_of_lt_of_le hb ho.size, fun j u hu => (ho.cell hb h1 h2).trans (hc j u hu)⟩⟩
theorem made8 : madeCells (Value.int .u8 0).cells (Int.toNat 8 * 1) = #[.int .u8 0, .int .u8 0, .int .u8 0, .int .u8 0, .int .u8 0, .int .u8 0, .int .u8 0, .int .u8 0] := by kernel_rfl
theorem len_quota {s : So} (h : s.ok) (hq : s.quota ≤ 1000000) {nm : ByteArray} : ∀ t, mget s.m nm = some t → t.bs.length ≤ 1000000 := fun t ht => by
  have a := mget_len h.di ht
  have b := h.us
  have c := h.uq
  omega
set_option maxRecDepth 100000 in
set_option maxHeartbeats 4000000 in
theorem alive12 (w : World) : Calls Try.prog 6 #[] w fun e w' => e = .returned (.bool true) ∧ Below w.heap.size w w' := by
  go_enter Try.func6, Try.ntmps6
  go_wp2_with fail
  refine (objNew (fun k => k ≠ w.heap.size + 1 ∧ k ≠ w.heap.size) w 10 (by decide) (by decide) (fun k hk => by omega)).mono ?_
  rintro e w1 ⟨rfl, hS1, hB1, hz1⟩
  obtain ⟨sb, hsb⟩ : ∃ b, b = w.heap.size + 1 := ⟨_, rfl⟩
  obtain ⟨mb, hmb⟩ : ∃ b, b = w.heap.size := ⟨_, rfl⟩
  have HB1 := hide hB1
  have hzz : sb < w1.heap.size ∧ mb < w1.heap.size := ⟨by omega, by omega⟩
  have HSB : Hid (w.heap.size ≤ sb ∧ w.heap.size ≤ mb) := hide ⟨by omega, by omega⟩
  rw [← hsb, ← hmb] at hS1
  rw [← hsb]
  have hO1 := Ost.refl sb mb w1
  clear hsb hmb hz1 hB1
  obtain ⟨z1, z2⟩ := hzz
  have kc := Lib.run_convert_bytes_const (P := Try.prog) w1 22 5 #[.int .u8 120, .int .u8 121, .int .u8 122] 3 3 Try.underlying22 Try.underlying5
  go_wp2_with fail
  have hr : RdP (w1.alloc (.cells #[.int .u8 120, .int .u8 121, .int .u8 122] 5 (3, 4))) (fun k => k ≠ sb ∧ k ≠ mb) (some ⟨w1.heap.size, 0, none⟩) _ _ [120, 121, 122] := rdp_lit w1 #[.int .u8 120, .int .u8 121, .int .u8 122] (3, 4) [120, 121, 122] rfl (by decide) ⟨by omega, by omega⟩
  have hb : Below w1.heap.size w1 (w1.alloc (.cells #[.int .u8 120, .int .u8 121, .int .u8 122] 5 (3, 4))) := (Below.refl _ _).alloc (Nat.le_refl _) _
  have hS := hS1.keep hb
  have hO := hO1.trans (Ost.of (sb := sb) (mb := mb) hb)
  have hzb := hb.size
  generalize (w1.alloc (.cells #[.int .u8 120, .int .u8 121, .int .u8 122] 5 (3, 4))) = v at *
  refine (objPut _ v sb mb 0 _ hS (fun k hk => ⟨by omega, by omega⟩) (by decide) nmA (by decide) _ _ [120, 121, 122] hr).mono ?_
  rintro e w2 hE
  rw [e1] at hE
  obtain ⟨rfl, hS2, O2⟩ := hE
  have hO2 := hO.trans O2
  have z1 : sb < w2.heap.size := hS2.bx.z
  have z2 := hS2.mlt
  clear hr hb hS hO hS1 hO1 O2 hzb kc
  clear v
  have kc := Lib.run_convert_bytes_const (P := Try.prog) w2 22 5 #[.int .u8 120] 1 1 Try.underlying22 Try.underlying5
  go_wp2_with fail
  have hr : RdP (w2.alloc (.cells #[.int .u8 120] 5 (1, 2))) (fun k => k ≠ sb ∧ k ≠ mb) (some ⟨w2.heap.size, 0, none⟩) _ _ [120] := rdp_lit w2 #[.int .u8 120] (1, 2) [120] rfl (by decide) ⟨by omega, by omega⟩
  have hb : Below w2.heap.size w2 (w2.alloc (.cells #[.int .u8 120] 5 (1, 2))) := (Below.refl _ _).alloc (Nat.le_refl _) _
  have hS := hS2.keep hb
  have hO := hO2.trans (Ost.of (sb := sb) (mb := mb) hb)
  have hzb := hb.size
  generalize (w2.alloc (.cells #[.int .u8 120] 5 (1, 2))) = v at *
  refine (objPut _ v sb mb 1 _ hS (fun k hk => ⟨by omega, by omega⟩) (by decide) nmA (by decide) _ _ [120] hr).mono ?_
  rintro e w3 hE
  rw [e2] at hE
  obtain ⟨rfl, hS3, O3⟩ := hE
  have hO3 := hO.trans O3
  have z1 : sb < w3.heap.size := hS3.bx.z
  have z2 := hS3.mlt
  clear hr hb hS hO hS2 hO2 O3 hzb kc
  clear v
  have km : (Instr.makeSlice 22 (.int .i64 8) (.int .i64 8)).run Try.prog w3 = .ok (.slice (some ⟨w3.heap.size, 0, none⟩) 8 8) (w3.alloc (.cells #[.int .u8 0, .int .u8 0, .int .u8 0, .int .u8 0, .int .u8 0, .int .u8 0, .int .u8 0, .int .u8 0] 5)) := by
    obtain ⟨i, hi, hz, hs, hb⟩ := info_parts tyBytes.inf
    have h := run_makeSlice (P := Try.prog) (w := w3) 22 5 i (.int .u8 0) Try.underlying22 hi hz .i64 .i64 8 8 (by decide) (by decide) (by rw [hs]; decide) (by rw [hb]; decide) (by decide)
    rw [hs] at h
    have hm : madeCells (Value.int .u8 0).cells (Int.toNat 8 * 1) = #[.int .u8 0, .int .u8 0, .int .u8 0, .int .u8 0, .int .u8 0, .int .u8 0, .int .u8 0, .int .u8 0] := made8
    rw [hm] at h
    exact h
  go_wp2_with fail
  have hr : RdP (w3.alloc (.cells #[.int .u8 0, .int .u8 0, .int .u8 0, .int .u8 0, .int .u8 0, .int .u8 0, .int .u8 0, .int .u8 0] 5)) (fun k => k ≠ sb ∧ k ≠ mb) (some ⟨w3.heap.size, 0, none⟩) _ _ (List.replicate 8 0) := rdp_lit w3 #[.int .u8 0, .int .u8 0, .int .u8 0, .int .u8 0, .int .u8 0, .int .u8 0, .int .u8 0, .int .u8 0] (0, 0) (List.replicate 8 0) rfl (by decide) ⟨by omega, by omega⟩
  have hb : Below w3.heap.size w3 (w3.alloc (.cells #[.int .u8 0, .int .u8 0, .int .u8 0, .int .u8 0, .int .u8 0, .int .u8 0, .int .u8 0, .int .u8 0] 5)) := (Below.refl _ _).alloc (Nat.le_refl _) _
  have hS := hS3.keep hb
  have hO := hO3.trans (Ost.of (sb := sb) (mb := mb) hb)
  have hzb := hb.size
  generalize (w3.alloc (.cells #[.int .u8 0, .int .u8 0, .int .u8 0, .int .u8 0, .int .u8 0, .int .u8 0, .int .u8 0, .int .u8 0] 5)) = v at *
  refine (objPut _ v sb mb 2 _ hS (fun k hk => ⟨by omega, by omega⟩) (by decide) nmB (by decide) _ _ (List.replicate 8 0) hr).mono ?_
  rintro e w4 hE
  rw [e3] at hE
  obtain ⟨rfl, hS4, O4⟩ := hE
  have hO4 := hO.trans O4
  have z1 : sb < w4.heap.size := hS4.bx.z
  have z2 := hS4.mlt
  clear hr hb hS hO hS3 hO3 O4 hzb km
  clear v
  go_wp2_with fail
  refine (objSync _ w4 sb mb 3 _ hS4 (by decide) nmA (by decide)).mono ?_
  rintro e w5 hE
  rw [e4] at hE
  obtain ⟨rfl, hS5, O5⟩ := hE
  have hO5 := hO4.trans O5
  have z1 : sb < w5.heap.size := hS5.bx.z
  have z2 := hS5.mlt
  clear hS4 hO4 O5
  have kc := Lib.run_convert_bytes_const (P := Try.prog) w5 22 5 #[.int .u8 117, .int .u8 118] 2 2 Try.underlying22 Try.underlying5
  go_wp2_with fail
  have hr : RdP (w5.alloc (.cells #[.int .u8 117, .int .u8 118] 5 (2, 3))) (fun k => k ≠ sb ∧ k ≠ mb) (some ⟨w5.heap.size, 0, none⟩) _ _ [117, 118] := rdp_lit w5 #[.int .u8 117, .int .u8 118] (2, 3) [117, 118] rfl (by decide) ⟨by omega, by omega⟩
  have hb : Below w5.heap.size w5 (w5.alloc (.cells #[.int .u8 117, .int .u8 118] 5 (2, 3))) := (Below.refl _ _).alloc (Nat.le_refl _) _
  have hS := hS5.keep hb
  have hO := hO5.trans (Ost.of (sb := sb) (mb := mb) hb)
  have hzb := hb.size
  generalize (w5.alloc (.cells #[.int .u8 117, .int .u8 118] 5 (2, 3))) = v at *
  refine (objPut _ v sb mb 4 _ hS (fun k hk => ⟨by omega, by omega⟩) (by decide) nmC (by decide) _ _ [117, 118] hr).mono ?_
  rintro e w6 hE
  rw [e5] at hE
  obtain ⟨rfl, hS6, O6⟩ := hE
  have hO6 := hO.trans O6
  have z1 : sb < w6.heap.size := hS6.bx.z
  have z2 := hS6.mlt
  clear hr hb hS hO hS5 hO5 O6 hzb kc
  clear v
  go_wp2_with fail
  have hr : Rd (w6.alloc (.cells #[.int .i64 1] 3)) (w6.heap.size + 1) 1 (some ⟨w6.heap.size, 0, none⟩) 1 1 [.int .i64 1] := Rd.lit (n := 1) (sz := 1) w6 3 #[.int .i64 1] rfl (by decide)
  have hb : Below w6.heap.size w6 (w6.alloc (.cells #[.int .i64 1] 3)) := (Below.refl _ _).alloc (Nat.le_refl _) _
  have hza : (w6.alloc (.cells #[.int .i64 1] 3)).heap.size = w6.heap.size + 1 := by simp
  rw [← hza] at hr
  have hS := hS6.keep hb
  have hO := hO6.trans (Ost.of (sb := sb) (mb := mb) hb)
  generalize (w6.alloc (.cells #[.int .i64 1] 3)) = v at *
  refine (objCrash _ v sb mb 5 _ hS _ _ [1] (fun wx hx => Rd.ost hr hx (by omega) (by omega)) (by rw [l3]; decide)).mono ?_
  rintro e w7 hE
  rw [e6, l3] at hE
  obtain ⟨rfl, hS7, O7⟩ := hE
  have hO7 := hO.trans O7
  have z1 : sb < w7.heap.size := hS7.bx.z
  have z2 := hS7.mlt
  clear hr hb hza hS hO hS6 hO6 O7
  clear v
  go_wp2_with fail
  refine (objGet _ w7 sb mb _ _ hS7 nmC (by decide) (len_quota hS7.ok (by decide))).mono ?_
  rintro e w8 hE
  rw [e7] at hE
  obtain ⟨hb, AC, cC, rfl, ownC⟩ := hE
  have hS8 := hS7.keep hb
  have hO8 := hO7.trans (Ost.of (sb := sb) (mb := mb) hb)
  have z1 : sb < w8.heap.size := hS8.bx.z
  have z2 := hS8.mlt
  have hrC : RdP w8 (fun k => k ≠ sb ∧ k ≠ mb) AC 1 cC [117] := .own ownC (fun k hk => ⟨by omega, by omega⟩)
  clear hb ownC hS7 hO7
  go_wp2_with fail
  refine (objSwap _ w8 sb mb _ _ hS8 ⟨#[]⟩ nmA).mono ?_
  rintro e w9 hE
  rw [e8] at hE
  obtain ⟨rfl, hS9, O9⟩ := hE
  have hO9 := hO8.trans O9
  have z1 : sb < w9.heap.size := hS9.bx.z
  have z2 := hS9.mlt
  replace hrC := hrC.ost O9
  clear hS8 hO8 O9
  go_wp2_with fail
  refine (objSwap _ w9 sb mb _ _ hS9 ⟨#[]⟩ nmC).mono ?_
  rintro e w10 hE
  rw [e9] at hE
  obtain ⟨rfl, hS10, O10⟩ := hE
  have hO10 := hO9.trans O10
  have z1 : sb < w10.heap.size := hS10.bx.z
  have z2 := hS10.mlt
  replace hrC := hrC.ost O10
  clear hS9 hO9 O10
  go_wp2_with fail
  refine (objFuse _ w10 sb mb _ _ hS10 0 (by decide)).mono ?_
  rintro e w11 hE
  rw [e10] at hE
  obtain ⟨rfl, hS11, O11⟩ := hE
  have hO11 := hO10.trans O11
  have z1 : sb < w11.heap.size := hS11.bx.z
  have z2 := hS11.mlt
  replace hrC := hrC.ost O11
  clear hS10 hO10 O11
  go_wp2_with fail
  refine (objDel _ w11 sb mb _ _ hS11 nmA (by decide)).mono ?_
  rintro e w12 hE
  rw [e11] at hE
  obtain ⟨rfl, hS12, O12⟩ := hE
  have hO12 := hO11.trans O12
  have z1 : sb < w12.heap.size := hS12.bx.z
  have z2 := hS12.mlt
  replace hrC := hrC.ost O12
  clear hS11 hO11 O12
  go_wp2_with fail
  refine (objGet _ w12 sb mb _ _ hS12 nmA (by decide) (len_quota hS12.ok (by decide))).mono ?_
  rintro e w13 hE
  rw [e12] at hE
  obtain ⟨hb, AX, cX, rfl, ownX⟩ := hE
  have hS13 := hS12.keep hb
  have hO13 := hO12.trans (Ost.of (sb := sb) (mb := mb) hb)
  have z1 : sb < w13.heap.size := hS13.bx.z
  have z2 := hS13.mlt
  replace hrC := hrC.low hb
  clear hb ownX hS12 hO12
  go_wp2_with fail
  refine (objCrash _ w13 sb mb _ _ hS13 none 0 [] (fun wx hx => Rd.nil _ _ _) (by rw [l7]; decide)).mono ?_
  rintro e w14 hE
  rw [e13, l7] at hE
  obtain ⟨rfl, hS14, O14⟩ := hE
  have hO14 := hO13.trans O14
  have z1 : sb < w14.heap.size := hS14.bx.z
  have z2 := hS14.mlt
  replace hrC := hrC.ost O14
  clear hS13 hO13 O14
  go_wp2_with fail
  refine (objGet _ w14 sb mb _ _ hS14 nmA (by decide) (len_quota hS14.ok (by decide))).mono ?_
  rintro e w15 hE
  rw [e14] at hE
  obtain ⟨hb, AY, cY, rfl, ownY⟩ := hE
  have hS15 := hS14.keep hb
  have hO15 := hO14.trans (Ost.of (sb := sb) (mb := mb) hb)
  have z1 : sb < w15.heap.size := hS15.bx.z
  have z2 := hS15.mlt
  replace hrC := hrC.low hb
  have hrY := rd_own ownY
  have HO := hide hO15
  have s1 : (convert 22 9 (.slice AC 1 cC)).run Try.prog w15 = .ok (.string ⟨#[117]⟩) w15 := run_str (P := Try.prog) w15 Try.underlying22 Try.underlying5 Try.underlying9 hrC.rd
  have s2 : (convert 22 9 (.slice AY 3 cY)).run Try.prog w15 = .ok (.string ⟨#[120, 121, 122]⟩) w15 := run_str (P := Try.prog) w15 Try.underlying22 Try.underlying5 Try.underlying9 hrY
  have t1 : ((⟨#[117]⟩ : ByteArray).toList == (⟨#[117]⟩ : ByteArray).toList) = true := beq_self_eq_true _
  have t2 : ((⟨#[120, 121, 122]⟩ : ByteArray).toList == (⟨#[120, 121, 122]⟩ : ByteArray).toList) = true := beq_self_eq_true _
  clear hb ownY hrY hrC hS15 hS14 hO15 hO14
  go_wp2_with fail
  go_ret
  exact ⟨rfl, HB1.out.trans (HO.out.below HSB.out.1 HSB.out.2 HB1.out.size)⟩
end Go.Proofs.Ytbgfmcmaklobaaa
