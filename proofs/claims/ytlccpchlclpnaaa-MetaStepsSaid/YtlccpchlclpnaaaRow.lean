/- WALKS of rows of cells: as values, made fit; the document's Fit and Place. No statement of the seat is proved here; no condition. -/
import Derived.Test.YtlccpchlclpnaaaFix
import Derived.Test.YtlccpchlclpnaaaLift
namespace Go.Proofs.Ytlccpchlclpnaaa
open Go.RowKit

theorem tyCells : STy Try.prog 38 109 3 32 (.agg #[.int .u8 0, .int .i64 0, .string ByteArray.empty]) := ⟨Try.underlying38, by kernel_rfl, rfl, by decide, by decide⟩
theorem one_vl (v : Vl) : ∀ u ∈ #[vlV v].toList, u.oneCell' = true := fun u hu => vlsV_one [v] u (by simpa [vlsV] using hu)
theorem one_cl (c : Cl) : ∀ u ∈ #[Value.int .u8 (c.kind.toNat : Int), .int .i64 c.n, .string c.s].toList, u.oneCell' = true := fun u hu => clsV_one [c] u (by simpa [clsV, clV] using hu)
theorem take_succ_getD {α : Type} [Inhabited α] (l : List α) (k : Nat) (h : k < l.length) : l.take (k + 1) = l.take k ++ [l.getD k default] := by
  rw [List.take_succ_eq_append_getElem h]
  simp [List.getD, h]

set_option maxRecDepth 100000 in
set_option maxHeartbeats 2000000 in
theorem lawRow (w : World) (B n c : Nat) (A : Option Addr) (l : List Cl) (hr : Rd w B 3 A n c (clsV l)) (hB : B ≤ w.heap.size) (hmax : l.length ≤ 1000000) :
    Calls Try.prog 21 #[.slice A n c] w (RetRow w 97 1 l.length (vlsV (l.map valOf))) := by
  obtain rfl := hr.lenC
  have hr := hr.more hB
  clear hB
  go_enter Try.func21, Try.ntmps21
  go_wp2_with fail
  go_loopw [3, 4] (fun ov iv wr => ∃ k : Nat, k ≤ l.length ∧ iv = .int .i64 (k : Int) ∧ wr.ownsRow w.heap.size 97 1 ov k (vlsV ((l.take k).map valOf)) ∧ Below w.heap.size w wr) (fun _ iv _ => l.length - (intOf iv).toNat)
  case atStart => exact ⟨0, Nat.zero_le _, rfl, World.ownsRow_nil _ _ _ _, Below.refl _ _⟩
  case round =>
    obtain ⟨k, hk, rfl, hown, hbr⟩ := hrel
    by_cases hlt : k < l.length
    · obtain ⟨b, off, rfl, hb, f0, f1, f2⟩ := (hr.below hbr).cl hlt
      have hstep := take_succ_getD l k hlt
      generalize hcc : l.getD k default = cl at *
      have HS := hide hstep
      clear hstep hcc
      go_wp2_with fail
      refine (lawValue wr cl).mono ?_
      rintro e w2 ⟨rfl, hb2⟩
      have hown2 := own_below hown hb2
      have hbr2 : Below w.heap.size w w2 := below_call hbr hbr.size hb2
      have hsz := hbr2.size
      have hvv : vlsV ((l.take (k + 1)).map valOf) = vlsV ((l.take k).map valOf) ++ [vlV (valOf cl)] := by rw [HS.out]; simp [vlsV]
      have HVV := hide hvv
      clear hvv hown hbr hb2 f0 f1 f2
      have h1v := one_vl (valOf cl)
      generalize valOf cl = v at *
      cases v <;> simp only [vlV] at h1v HVV ⊢
      all_goals
        go_wp2_with (at_builtin; refine wpList_app _ tyVals rfl (.tmp 11) (.tmp 17) rfl w.heap.size _ _ _ rfl (hown2.alloc _) (w2.heap.size + 1) _ 1 1 _ rfl (Rd.lit w2 97 _ rfl (by decide)) h1v (by omega) (by simp; omega) ?_; intro v3 w3 hown3 hg3 _; have hb3 := below_app (hbr2.alloc hsz _) (Nat.le_refl _) (hown2.alloc _) hg3 (by simp; omega); clear hg3 hown2 hbr2)
        go_roundw
        case rel => exact ⟨k + 1, hlt, by go_num, by rw [HVV.out]; exact hown3, hb3⟩
        case measure => exact meas_sub k _ hlt
    · obtain rfl : k = l.length := by omega
      rw [List.take_of_length_le (Nat.le_refl _)] at hown
      have HO := hide hown
      clear hown
      go_wp2_with fail
      go_ret
      exact ⟨_, rfl, HO.out, hbr⟩

set_option maxRecDepth 100000 in
set_option maxHeartbeats 2000000 in
theorem refFixRow (w : World) (B n c : Nat) (A : Option Addr) (l : List Cl) (hr : Rd w B 3 A n c (clsV l)) (hB : B ≤ w.heap.size) (hmax : l.length ≤ 1000000) :
    Calls Try.prog 23 #[.slice A n c] w (RetRow w 109 3 l.length (clsV (l.map fixC))) := by
  obtain rfl := hr.lenC
  have hr := hr.more hB
  clear hB
  go_enter Try.func23, Try.ntmps23
  go_wp2_with fail
  go_loopw [3, 4] (fun ov iv wr => ∃ k : Nat, k ≤ l.length ∧ iv = .int .i64 (k : Int) ∧ wr.ownsRow w.heap.size 109 3 ov k (clsV ((l.take k).map fixC)) ∧ Below w.heap.size w wr) (fun _ iv _ => l.length - (intOf iv).toNat)
  case atStart => exact ⟨0, Nat.zero_le _, rfl, World.ownsRow_nil _ _ _ _, Below.refl _ _⟩
  case round =>
    obtain ⟨k, hk, rfl, hown, hbr⟩ := hrel
    by_cases hlt : k < l.length
    · obtain ⟨b, off, rfl, hb, f0, f1, f2⟩ := (hr.below hbr).cl hlt
      have hstep := take_succ_getD l k hlt
      generalize hcc : l.getD k default = cl at *
      have HS := hide hstep
      clear hstep hcc
      go_wp2_with fail
      refine (refFix wr cl).mono ?_
      rintro e w2 ⟨rfl, hb2⟩
      have hown2 := own_below hown hb2
      have hbr2 : Below w.heap.size w w2 := below_call hbr hbr.size hb2
      have hsz := hbr2.size
      have hvv : clsV ((l.take (k + 1)).map fixC) = clsV ((l.take k).map fixC) ++ clV (fixC cl) := by rw [HS.out]; simp [clsV]
      have HVV := hide hvv
      clear hvv hown hbr hb2 f0 f1 f2
      have h1v := one_cl (fixC cl)
      generalize fixC cl = fc at *
      go_wp2_with (at_builtin; refine wpList_app _ tyCells rfl (.tmp 11) (.tmp 17) rfl w.heap.size _ _ _ rfl (hown2.alloc _) (w2.heap.size + 1) _ 1 1 _ rfl (Rd.lit w2 109 _ rfl (by decide)) h1v (by omega) (by simp; omega) ?_; intro v3 w3 hown3 hg3 _; have hb3 := below_app (hbr2.alloc hsz _) (Nat.le_refl _) (hown2.alloc _) hg3 (by simp; omega); clear hg3 hown2 hbr2)
      go_roundw
      case rel => exact ⟨k + 1, hlt, by go_num, by rw [HVV.out]; exact hown3, hb3⟩
      case measure => exact meas_sub k _ hlt
    · obtain rfl : k = l.length := by omega
      rw [List.take_of_length_le (Nat.le_refl _)] at hown
      have HO := hide hown
      clear hown
      go_wp2_with fail
      go_ret
      exact ⟨_, rfl, HO.out, hbr⟩

set_option maxRecDepth 100000 in
set_option maxHeartbeats 1000000 in
theorem refPlace (w : World) (id : UInt32) (n c : Nat) (A : Option Addr) (l : List Fd) (hr : Rd w w.heap.size 4 A n c (fdsV l)) (hmax : l.length ≤ 1000000) (i : Nat) :
    Calls Try.prog 19 #[.agg #[.int .u32 (id.toNat : Int), .slice A n c], .int .u32 (i : Int)] w fun e w' => e = .returned (.int .i64 (placeOf i l)) ∧ Below w.heap.size w w' := by
  obtain rfl := hr.lenF
  go_enter Try.func19, Try.ntmps19
  go_wp2_with fail
  have x1 := box_new w #[.int .u32 (id.toNat : Int), .slice A l.length c] 25
  generalize hwa : w.alloc (.cells #[.int .u32 (id.toNat : Int), .slice A l.length c] 25) = w1 at *
  obtain ⟨cs, _, zs, hb1⟩ := x1.lift (Below.refl _ _)
  have s1 : w1.cell? ⟨w.heap.size, 1, none⟩ = some (.slice A l.length c) := cs 1 _ rfl
  have hr1 := (hr.below hb1).more hb1.size
  clear hwa cs x1 hr
  go_loopw [5] (fun iv wr => ∃ k : Nat, k ≤ l.length ∧ iv = .int .i64 (k : Int) ∧ Hid (∀ j, j < k → ((((l.getD j default).id.toNat : Int)) == (i : Int)) = false) ∧ w1 = wr) (fun iv _ => l.length - (intOf iv).toNat)
  case atStart => exact ⟨0, Nat.zero_le _, rfl, hide (fun j h => by omega), rfl⟩
  case round =>
    obtain ⟨k, hk, rfl, hf, rfl⟩ := hrel
    by_cases hlt : k < l.length
    · obtain ⟨b, off, rfl, hb, f0, _, _, _⟩ := hr1.fd hlt
      generalize hfi : (l.getD k default).id.toNat = fid at *
      have HFI := hide hfi
      clear hfi
      cases hq : ((fid : Int) == (i : Int)) with
      | true =>
        have hp := hide (show placeOf i l = (k : Int) from idxF_hit hlt (by rw [HFI.out]; exact hq) hf.out)
        go_wp2_with fail
        go_ret
        exact ⟨by rw [hp.out]; rfl, hb1⟩
      | false =>
        have HQ := hide hq
        go_wp2_with fail
        go_roundw
        case rel =>
          refine ⟨k + 1, hlt, by go_num, hide (fun j hj => ?_), trivial⟩
          by_cases e : j = k
          · rw [e, HFI.out]; exact HQ.out
          · exact hf.out j (by omega)
        case measure => exact meas_sub k _ hlt
    · obtain rfl : k = l.length := by omega
      have hp := hide (show placeOf i l = -1 from idxF_none hf.out)
      go_wp2_with fail
      go_ret
      exact ⟨by rw [hp.out]; rfl, hb1⟩
end Go.Proofs.Ytlccpchlclpnaaa
