/- WALKS of schemas: names among fields, which schemas may be. No statement of the seat is proved here; no condition. -/
import Derived.Test.YtlccpchlclpnaaaSigN
import Derived.Test.YtlccpchlclpnaaaSch
namespace Go.Proofs.Ytlccpchlclpnaaa
open Go.RowKit

set_option maxRecDepth 100000 in
set_option maxHeartbeats 1000000 in
theorem refHas (w : World) (B n c : Nat) (A : Option Addr) (l : List Fd) (hr : Rd w B 4 A n c (fdsV l)) (s : ByteArray) (hmax : l.length ≤ 1000000) :
    Calls Try.prog 57 #[.slice A n c, .string s] w fun e w' => e = .returned (.bool (hasName l s)) ∧ w = w' := by
  obtain rfl := hr.lenF
  go_enter Try.func57, Try.ntmps57
  go_wp2_with fail
  go_loopw [5] (fun iv wr => ∃ k : Nat, k ≤ l.length ∧ iv = .int .i64 (k : Int) ∧ Hid (∀ j, j < k → ((l.getD j default).name.toList == s.toList) = false) ∧ w = wr) (fun iv _ => l.length - (intOf iv).toNat)
  case atStart => exact ⟨0, Nat.zero_le _, rfl, hide (fun j h => by omega), rfl⟩
  case round =>
    obtain ⟨k, hk, rfl, hf, rfl⟩ := hrel
    by_cases hlt : k < l.length
    · obtain ⟨b, off, rfl, hb, _, h1, _, _⟩ := hr.fd hlt
      generalize hnm : (l.getD k default).name = nm at *
      have HNM := hide hnm
      clear hnm
      cases hq : (nm.toList == s.toList) with
      | true =>
        go_wp2_with fail
        go_ret
        exact ⟨by rw [hasName_from l s k hlt (by rw [HNM.out]; exact hq)]; rfl, rfl⟩
      | false =>
        go_wp2_with fail
        go_roundw
        case rel =>
          refine ⟨k + 1, by omega, by go_num, hide (fun j hj => ?_), trivial⟩
          by_cases e : j = k
          · rw [e, HNM.out]; exact hq
          · exact hf.out j (by omega)
        case measure => exact meas_sub k _ hlt
    · obtain rfl : k = l.length := by omega
      go_wp2_with fail
      go_ret
      exact ⟨by rw [hasName_none l s hf.out]; rfl, rfl⟩
end Go.Proofs.Ytlccpchlclpnaaa
