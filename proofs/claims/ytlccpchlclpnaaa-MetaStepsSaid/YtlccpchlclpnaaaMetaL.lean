/- WALKS: the library's Index, Contains at numbers and texts, Equal at fields; the names of manifests; lists of texts. No statement of the seat is proved here; no condition. -/
import Derived.Test.YtlccpchlclpnaaaMeta
import Derived.Test.YtlccpchlclpnaaaGreat
namespace Go.Proofs.Ytlccpchlclpnaaa
open Go.RowKit

def u64sV (l : List UInt64) : List Value := l.map fun x => .int .u64 (x.toNat : Int)
section
variable {w : World} {B n c : Nat} {A : Option Addr}
theorem Rd.lenU {l : List UInt64} (h : Rd w B 1 A n c (u64sV l)) : n = l.length := by
  have := h.len
  simp [u64sV] at this
  omega
theorem Rd.u64 {l : List UInt64} (h : Rd w B 1 A n c (u64sV l)) {k : Nat} (hk : k < l.length) : ∃ b off, A = some ⟨b, off, none⟩ ∧ b < B ∧ w.cell? ⟨b, off + k, none⟩ = some (.int .u64 ((l.getD k default).toNat : Int)) := by
  obtain ⟨b, off, e, hb, hc⟩ := h.cellAt (k := k) (by simp [u64sV]; exact hk)
  refine ⟨b, off, e, hb, hc.trans ?_⟩
  simp [u64sV, List.getD, hk]
end

set_option maxRecDepth 100000 in
theorem indexU (w : World) (B n c : Nat) (A : Option Addr) (l : List UInt64) (hr : Rd w B 1 A n c (u64sV l)) (hmax : l.length ≤ 1000000) (x : UInt64) :
    Calls Try.prog 91 #[.slice A n c, .int .u64 (x.toNat : Int)] w fun e w' => e = .returned (.int .i64 (ixA (fun y => (x.toNat : Int) == (y.toNat : Int)) l)) ∧ w = w' := by
  obtain rfl := hr.lenU
  go_enter Try.func91, Try.ntmps91
  go_wp2
  go_loop [8] (fun iv => ∃ k : Nat, k ≤ l.length ∧ iv = .int .i64 (k : Int) ∧ Hid (∀ j, j < k → (fun y => (x.toNat : Int) == (y.toNat : Int)) (l.getD j default) = false)) (fun iv => l.length - (intOf iv).toNat)
  case atStart => exact ⟨0, Nat.zero_le _, rfl, hide (fun j h => by omega)⟩
  case round =>
    obtain ⟨k, hk, rfl, hf⟩ := hrel
    by_cases hlt : k < l.length
    · obtain ⟨b, off, rfl, hb, f0⟩ := hr.u64 hlt
      cases hq : (fun y => (x.toNat : Int) == (y.toNat : Int)) (l.getD k default) with
      | true =>
        have HI : Hid (ixA (fun y => (x.toNat : Int) == (y.toNat : Int)) l = (k : Int)) := hide (ixA_hit hlt hq hf.out)
        dsimp only at hq
        generalize l.getD k default = y at *
        go_wp2
        go_ret
        exact ⟨by rw [HI.out]; rfl, rfl⟩
      | false =>
        have HQ := hide hq
        dsimp only at hq
        generalize hx : l.getD k default = y at *
        have HX := hide hx
        clear hx
        go_wp2
        go_round
        case rel =>
          refine ⟨k + 1, by omega, by go_num, hide (fun j hj => ?_)⟩
          by_cases e : j = k
          · rw [e, HX.out]; exact HQ.out
          · exact hf.out j (by omega)
        case measure => simp [intOf]; omega
    · have HI : Hid (ixA (fun y => (x.toNat : Int) == (y.toNat : Int)) l = -1) := hide (ixA_none fun j hj => hf.out j (by omega))
      go_wp2
      go_ret
      exact ⟨by rw [HI.out]; rfl, rfl⟩
theorem containsU (w : World) (B n c : Nat) (A : Option Addr) (l : List UInt64) (hr : Rd w B 1 A n c (u64sV l)) (hmax : l.length ≤ 1000000) (x : UInt64) :
    Calls Try.prog 79 #[.slice A n c, .int .u64 (x.toNat : Int)] w fun e w' => e = .returned (.bool (l.any fun y => (x.toNat : Int) == (y.toNat : Int))) ∧ w = w' := by
  have hc := indexU w B n c A l hr hmax x
  rw [← ixA_ge]
  generalize ixA (fun y => (x.toNat : Int) == (y.toNat : Int)) l = r at *
  clear hr
  go_enter Try.func79, Try.ntmps79
  go_wp2_with fail
  refine hc.mono ?_
  rintro e w' ⟨rfl, rfl⟩
  go_wp2_with fail
  go_ret
  exact ⟨rfl, rfl⟩

set_option maxRecDepth 100000 in
theorem indexT (w : World) (B n c : Nat) (A : Option Addr) (l : List ByteArray) (hr : Rd w B 1 A n c (strsV l)) (hmax : l.length ≤ 1000000) (x : ByteArray) :
    Calls Try.prog 96 #[.slice A n c, .string x] w fun e w' => e = .returned (.int .i64 (ixA (fun y => x.toList == y.toList) l)) ∧ w = w' := by
  obtain rfl := hr.lenT
  go_enter Try.func96, Try.ntmps96
  go_wp2
  go_loop [8] (fun iv => ∃ k : Nat, k ≤ l.length ∧ iv = .int .i64 (k : Int) ∧ Hid (∀ j, j < k → (fun y => x.toList == y.toList) (l.getD j default) = false)) (fun iv => l.length - (intOf iv).toNat)
  case atStart => exact ⟨0, Nat.zero_le _, rfl, hide (fun j h => by omega)⟩
  case round =>
    obtain ⟨k, hk, rfl, hf⟩ := hrel
    by_cases hlt : k < l.length
    · obtain ⟨b, off, rfl, hb, f0⟩ := hr.st hlt
      cases hq : (fun y => x.toList == y.toList) (l.getD k default) with
      | true =>
        have HI : Hid (ixA (fun y => x.toList == y.toList) l = (k : Int)) := hide (ixA_hit hlt hq hf.out)
        dsimp only at hq
        generalize l.getD k default = y at *
        go_wp2
        go_ret
        exact ⟨by rw [HI.out]; rfl, rfl⟩
      | false =>
        have HQ := hide hq
        dsimp only at hq
        generalize hx : l.getD k default = y at *
        have HX := hide hx
        clear hx
        go_wp2
        go_round
        case rel =>
          refine ⟨k + 1, by omega, by go_num, hide (fun j hj => ?_)⟩
          by_cases e : j = k
          · rw [e, HX.out]; exact HQ.out
          · exact hf.out j (by omega)
        case measure => simp [intOf]; omega
    · have HI : Hid (ixA (fun y => x.toList == y.toList) l = -1) := hide (ixA_none fun j hj => hf.out j (by omega))
      go_wp2
      go_ret
      exact ⟨by rw [HI.out]; rfl, rfl⟩
theorem containsT (w : World) (B n c : Nat) (A : Option Addr) (l : List ByteArray) (hr : Rd w B 1 A n c (strsV l)) (hmax : l.length ≤ 1000000) (x : ByteArray) :
    Calls Try.prog 93 #[.slice A n c, .string x] w fun e w' => e = .returned (.bool (l.any fun y => x.toList == y.toList)) ∧ w = w' := by
  have hc := indexT w B n c A l hr hmax x
  rw [← ixA_ge]
  generalize ixA (fun y => x.toList == y.toList) l = r at *
  clear hr
  go_enter Try.func93, Try.ntmps93
  go_wp2_with fail
  refine hc.mono ?_
  rintro e w' ⟨rfl, rfl⟩
  go_wp2_with fail
  go_ret
  exact ⟨rfl, rfl⟩

end Go.Proofs.Ytlccpchlclpnaaa
