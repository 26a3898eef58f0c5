/- THE WALK of the document's Great at entries. No statement of the seat is proved here; no condition. -/
import Derived.Test.YtbcnekaagkdmeaaDoorEnSm
namespace Go.Proofs.YtbcnekaagkdmeaaDoor
open Go.RowKit

/-- entries that statements look at -/
def SmE (l : List El) : Prop := l.length ≤ 200 ∧ ∀ x ∈ l, x.p.name.size ≤ 500 ∧ x.p.stats.length ≤ 50
set_option maxRecDepth 100000 in
set_option maxHeartbeats 2000000 in
theorem refGreat13 (w : World) (A : Option Addr) (c : Nat) (l : List El) (h : EnR w w.heap.size A c l) :
    Calls Tryd.prog 9 #[.slice A l.length c] w fun e w' => ∃ g, e = .returned (.bool g) ∧ (g = false → SmE l) ∧ Below w.heap.size w w' := by
  have hmax : l.length ≤ 9223372036854775807 := by have h3 := h.row.le; have h4 := h.row.cap; unfold maxLen at h4; omega
  by_cases h2 : 200 < l.length
  · have t7 : decide ((200 : Int) < (l.length : Int)) = true := decide_eq_true (by omega)
    clear h2
    go_enter Tryd.func9, Tryd.ntmps9
    go_wp2_with fail
    go_ret
    exact ⟨true, rfl, (fun q => by cases q), Below.refl _ _⟩
  have t7 : decide ((200 : Int) < (l.length : Int)) = false := decide_eq_false (by omega)
  have H200 : Hid (l.length ≤ 200) := hide (by omega)
  clear h2
  go_enter Tryd.func9, Tryd.ntmps9
  go_wp2_with fail
  go_loopw [3] (fun iv wr => ∃ k : Nat, iv = .int .i64 (k : Int) ∧ k ≤ l.length ∧ Hid (∀ j, j < k → (l.getD j default).p.name.size ≤ 500 ∧ (l.getD j default).p.stats.length ≤ 50) ∧ w = wr) (fun iv _ => l.length - (intOf iv).toNat)
  case atStart => exact ⟨0, rfl, Nat.zero_le _, hide (fun j hj => by omega), rfl⟩
  case round =>
    obtain ⟨k, rfl, hk, hf, rfl⟩ := hrel
    by_cases hlt : k < l.length
    · obtain ⟨gb, off, rfl, hgb, hc⟩ := h.row.elA hlt
      have hin := h.ins (l.getD k default) (getD_mem hlt)
      obtain ⟨x, hx⟩ : ∃ x, l.getD k default = x := ⟨_, rfl⟩
      obtain ⟨a0, a1, a2, a3, a4, a5⟩ := hc x hx
      rw [hx] at hin
      have HX := hide hx
      have hms : x.p.stats.length ≤ 9223372036854775807 := by have h3 := hin.le; have h4 := hin.cap; unfold maxLen at h4; omega
      clear hc hx
      by_cases hn : 500 < x.p.name.size
      · have t20 : decide ((500 : Int) < (x.p.name.size : Int)) = true := decide_eq_true (by omega)
        clear hn
        go_wp2_with fail
        go_ret
        exact ⟨true, rfl, (fun q => by cases q), Below.refl _ _⟩
      have t20 : decide ((500 : Int) < (x.p.name.size : Int)) = false := decide_eq_false (by omega)
      have HN : Hid (x.p.name.size ≤ 500) := hide (by omega)
      clear hn
      by_cases hs : 50 < x.p.stats.length
      · have t28 : decide ((50 : Int) < (x.p.stats.length : Int)) = true := decide_eq_true (by omega)
        clear hs
        go_wp2_with fail
        go_ret
        exact ⟨true, rfl, (fun q => by cases q), Below.refl _ _⟩
      have t28 : decide ((50 : Int) < (x.p.stats.length : Int)) = false := decide_eq_false (by omega)
      have HNS : Hid ((l.getD k default).p.name.size ≤ 500 ∧ (l.getD k default).p.stats.length ≤ 50) := hide ⟨by rw [HX.out]; exact HN.out, by rw [HX.out]; omega⟩
      clear hs
      generalize x.p.stats = sts at *
      generalize x.A = SA at *
      go_wp2_with fail
      go_loopw [4] (fun iv wr => ∃ m : Nat, iv = .int .i64 (m : Int) ∧ m ≤ sts.length ∧ w = wr) (fun iv _ => sts.length - (intOf iv).toNat)
      case atStart => exact ⟨0, rfl, Nat.zero_le _, rfl⟩
      case round =>
        obtain ⟨m, rfl, hm, rfl⟩ := hrel
        by_cases hml : m < sts.length
        · obtain ⟨sb, so, rfl, hsb, hcs⟩ := hin.stA hml
          obtain ⟨s, hs⟩ : ∃ s, sts.getD m default = s := ⟨_, rfl⟩
          obtain ⟨_, _, _, _, _, _, b6, _, _, b9⟩ := hcs s hs
          clear hcs hs
          by_cases h6 : 500 < s.mn.s.size
          · have t51 : decide ((500 : Int) < (s.mn.s.size : Int)) = true := decide_eq_true (by omega)
            clear h6
            go_wp2_with fail
            go_ret
            exact ⟨true, rfl, (fun q => by cases q), Below.refl _ _⟩
          have t51 : decide ((500 : Int) < (s.mn.s.size : Int)) = false := decide_eq_false (by omega)
          clear h6
          by_cases h9 : 500 < s.mx.s.size
          · have t64 : decide ((500 : Int) < (s.mx.s.size : Int)) = true := decide_eq_true (by omega)
            clear h9
            go_wp2_with fail
            go_ret
            exact ⟨true, rfl, (fun q => by cases q), Below.refl _ _⟩
          have t64 : decide ((500 : Int) < (s.mx.s.size : Int)) = false := decide_eq_false (by omega)
          clear h9
          go_wp2_with fail
          go_roundw
          case rel => exact ⟨m + 1, by go_num, hml, trivial⟩
          case measure => simp [intOf]; omega
        · go_wp2_with fail
          go_roundw
          case rel =>
            refine ⟨k + 1, by go_num, hlt, hide fun j hj => ?_, trivial⟩
            rcases Nat.lt_or_ge j k with q | q
            · exact hf.out j q
            · obtain rfl : j = k := by omega
              exact HNS.out
          case measure => simp [intOf]; omega
    · go_wp2_with fail
      go_ret
      refine ⟨false, rfl, (fun _ => ⟨H200.out, fun x hx => ?_⟩), Below.refl _ _⟩
      obtain ⟨j, hj, rfl⟩ := List.getElem_of_mem hx
      have := hf.out j (by omega)
      rw [getD_at _ _ hj] at this
      exact this
end Go.Proofs.YtbcnekaagkdmeaaDoor
