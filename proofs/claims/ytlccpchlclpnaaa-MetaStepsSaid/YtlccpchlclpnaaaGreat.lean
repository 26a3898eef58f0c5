/- WALKS of the document's Great and Same of schemas. No statement of the seat is proved here; no condition. -/
import Derived.Test.YtlccpchlclpnaaaSchA
namespace Go.Proofs.Ytlccpchlclpnaaa
open Go.RowKit

/-- what is not great -/
def Small (l : List Fd) : Prop := l.length ≤ 100 ∧ ∀ j, j < l.length → (l.getD j default).name.size < 5000
set_option maxRecDepth 100000 in
set_option maxHeartbeats 1000000 in
theorem refGreat (w : World) (id : UInt32) (n c : Nat) (A : Option Addr) (l : List Fd) (hr : Rd w w.heap.size 4 A n c (fdsV l)) :
    Calls Try.prog 12 #[.agg #[.int .u32 (id.toNat : Int), .slice A n c]] w fun e w' => ∃ g, e = .returned (.bool g) ∧ (g = false → Small l) ∧ Below w.heap.size w w' := by
  obtain rfl := hr.lenF
  have hmax : l.length ≤ 9223372036854775807 := by have h1 := hr.le; have h2 := hr.cap; unfold maxLen at h2; omega
  go_enter Try.func12, Try.ntmps12
  go_wp2_with fail
  have x1 := box_new w #[.int .u32 (id.toNat : Int), .slice A l.length c] 25
  generalize hwa : w.alloc (.cells #[.int .u32 (id.toNat : Int), .slice A l.length c] 25) = w1 at *
  obtain ⟨cs, _, zs, hb1⟩ := x1.lift (Below.refl _ _)
  have s1 : w1.cell? ⟨w.heap.size, 1, none⟩ = some (.slice A l.length c) := cs 1 _ rfl
  have hr1 := (hr.below hb1).more hb1.size
  clear hwa cs x1 hr
  go_loopw [3, 4] (fun nv iv wr => ∃ (k N : Nat), k ≤ l.length ∧ k ≤ 100 ∧ N < 10000 ∧ nv = .int .i64 (N : Int) ∧ iv = .int .i64 (k : Int) ∧ Hid (∀ j, j < k → (l.getD j default).name.size < 5000 ∨ 5000 ≤ N) ∧ w1 = wr) (fun _ iv _ => l.length - (intOf iv).toNat)
  case atStart => exact ⟨0, 0, Nat.zero_le _, by omega, by omega, rfl, rfl, hide (fun j h => by omega), rfl⟩
  case round =>
    obtain ⟨k, N, hk, hk2, hN, rfl, rfl, hf, rfl⟩ := hrel
    by_cases hgo : k < l.length ∧ k < 100 ∧ N < 5000
    · obtain ⟨h1, h2, h3⟩ := hgo
      have y2 : decide ((k : Int) < 100) = true := decide_eq_true (by omega)
      have y3 : decide ((N : Int) < 5000) = true := decide_eq_true (by omega)
      obtain ⟨b, off, rfl, hb, _, q1, _, _⟩ := hr1.fd h1
      generalize hnm : (l.getD k default).name = nm at *
      have HNM := hide hnm
      clear hnm
      obtain ⟨s, hs⟩ : ∃ s, s = min nm.size 5000 := ⟨_, rfl⟩
      have hs1 : min (nm.size : Int) 5000 = (s : Int) := by omega
      have hs2 : s ≤ 5000 := by omega
      have HS := hide hs
      clear hs
      go_wp2_with fail
      go_roundw
      case rel =>
        refine ⟨k + 1, N + s, h1, by omega, by omega, by go_num, by go_num, hide (fun j hj => ?_), trivial⟩
        by_cases e : j = k
        · rw [e, HNM.out]; have := HS.out; omega
        · rcases hf.out j (by omega) with q | q
          · exact .inl q
          · exact .inr (by omega)
      case measure => exact meas_sub k _ h1
    · by_cases h1 : k < l.length
      · by_cases h2 : k < 100
        · have h3 : 5000 ≤ N := by omega
          have y2 : decide ((k : Int) < 100) = true := decide_eq_true (by omega)
          have y3 : decide ((N : Int) < 5000) = false := decide_eq_false (by omega)
          have y4 : decide ((5000 : Int) ≤ (N : Int)) = true := decide_eq_true (by omega)
          by_cases h4 : 100 < l.length
          · have y5 : decide ((100 : Int) < (l.length : Int)) = true := decide_eq_true (by omega)
            go_wp2_with fail
            go_ret
            exact ⟨_, rfl, (fun h => by cases h), hb1⟩
          · have y5 : decide ((100 : Int) < (l.length : Int)) = false := decide_eq_false (by omega)
            go_wp2_with fail
            go_ret
            exact ⟨_, rfl, (fun h => by cases h), hb1⟩
        · have y2 : decide ((k : Int) < 100) = false := decide_eq_false (by omega)
          have y5 : decide ((100 : Int) < (l.length : Int)) = true := decide_eq_true (by omega)
          go_wp2_with fail
          go_ret
          exact ⟨_, rfl, (fun h => by cases h), hb1⟩
      · obtain rfl : k = l.length := by omega
        have y5 : decide ((100 : Int) < (l.length : Int)) = false := decide_eq_false (by omega)
        by_cases h3 : 5000 ≤ N
        · have y4 : decide ((5000 : Int) ≤ (N : Int)) = true := decide_eq_true (by omega)
          go_wp2_with fail
          go_ret
          exact ⟨_, rfl, (fun h => by cases h), hb1⟩
        · have y4 : decide ((5000 : Int) ≤ (N : Int)) = false := decide_eq_false (by omega)
          have hsm := hide (show Small l from ⟨hk2, fun j hj => (hf.out j hj).resolve_right h3⟩)
          go_wp2_with fail
          go_ret
          exact ⟨_, rfl, (fun _ => hsm.out), hb1⟩

/-- two fields: the same? -/
def fdEq (f g : Fd) : Bool := ((f.id.toNat : Int) == (g.id.toNat : Int)) && ((f.name.toList == g.name.toList) && (((f.kind.toNat : Int) == (g.kind.toNat : Int)) && (f.need == g.need)))
def sameSch (i1 i2 : UInt32) (l1 l2 : List Fd) : Bool := ((i1.toNat : Int) == (i2.toNat : Int)) && (decide (l1.length = l2.length) && (List.range l1.length).all fun j => fdEq (l1.getD j default) (l2.getD j default))
theorem neq_fd (f g : Fd) (w : World) : (binOp .neq 96 (.agg #[.int .u32 (f.id.toNat : Int), .string f.name, .int .u8 (f.kind.toNat : Int), .bool f.need]) (.agg #[.int .u32 (g.id.toNat : Int), .string g.name, .int .u8 (g.kind.toNat : Int), .bool g.need])).run Try.prog w = .ok (.bool (!fdEq f g)) w := by
  rw [run_neq_struct]
  unfold fdEq
  cases h1 : ((f.id.toNat : Int) == (g.id.toNat : Int)) <;> cases h2 : (f.name.toList == g.name.toList) <;> cases h3 : ((f.kind.toNat : Int) == (g.kind.toNat : Int)) <;> cases h4 : (f.need == g.need) <;> go_simp
set_option maxRecDepth 100000 in
set_option maxHeartbeats 2000000 in
theorem refSame (w : World) (i1 i2 : UInt32) (n1 c1 n2 c2 : Nat) (A1 A2 : Option Addr) (l1 l2 : List Fd) (hr1 : Rd w w.heap.size 4 A1 n1 c1 (fdsV l1)) (hr2 : Rd w w.heap.size 4 A2 n2 c2 (fdsV l2)) :
    Calls Try.prog 17 #[.agg #[.int .u32 (i1.toNat : Int), .slice A1 n1 c1], .agg #[.int .u32 (i2.toNat : Int), .slice A2 n2 c2]] w fun e w' => e = .returned (.bool (sameSch i1 i2 l1 l2)) ∧ Below w.heap.size w w' := by
  obtain rfl := hr1.lenF
  obtain rfl := hr2.lenF
  have hmax : l1.length ≤ 9223372036854775807 := by have h1 := hr1.le; have h2 := hr1.cap; unfold maxLen at h2; omega
  by_cases g1 : i1.toNat = i2.toNat
  · have y1 : ((i1.toNat : Int) != (i2.toNat : Int)) = false := by rw [bne_eq_false_iff_eq]; omega
    by_cases g2 : l1.length = l2.length
    · have y2 : ((l1.length : Int) != (l2.length : Int)) = false := by rw [bne_eq_false_iff_eq]; omega
      have hs : sameSch i1 i2 l1 l2 = (List.range l1.length).all fun j => fdEq (l1.getD j default) (l2.getD j default) := by
        unfold sameSch
        rw [g1, decide_eq_true g2]
        simp
      rw [hs]
      have HG := hide (And.intro g1 g2)
      clear g1 g2 hs
      go_enter Try.func17, Try.ntmps17
      go_wp2_with fail
      have x1 := box_new w #[.int .u32 (i1.toNat : Int), .slice A1 l1.length c1] 25
      generalize hwa : w.alloc (.cells #[.int .u32 (i1.toNat : Int), .slice A1 l1.length c1] 25) = wa at *
      have x2 := box_new wa #[.int .u32 (i2.toNat : Int), .slice A2 l2.length c2] 25
      generalize hwb : wa.alloc (.cells #[.int .u32 (i2.toNat : Int), .slice A2 l2.length c2] 25) = w2 at *
      have za := x1.size
      have zb := x2.size
      obtain ⟨cs, _, zs, hb2⟩ := x1.lift x2.below
      obtain ⟨cn, _, zn, _⟩ := x2.lift (Below.refl _ _)
      have s1 : w2.cell? ⟨w.heap.size, 1, none⟩ = some (.slice A1 l1.length c1) := cs 1 _ rfl
      have n1 : w2.cell? ⟨w.heap.size + 1, 1, none⟩ = some (.slice A2 l2.length c2) := by rw [show w.heap.size + 1 = wa.heap.size by omega]; exact cn 1 _ rfl
      have zn' : w.heap.size + 1 < w2.heap.size := by omega
      have hq1 := (hr1.below hb2).more hb2.size
      have hq2 := (hr2.below hb2).more hb2.size
      clear hwa hwb cs cn x1 x2 zn
      go_loopw [5] (fun iv wr => ∃ k : Nat, k ≤ l1.length ∧ iv = .int .i64 (k : Int) ∧ Hid (∀ j, j < k → fdEq (l1.getD j default) (l2.getD j default) = true) ∧ Below w2.heap.size w2 wr) (fun iv _ => l1.length - (intOf iv).toNat)
      case atStart => exact ⟨0, Nat.zero_le _, rfl, hide (fun j h => by omega), Below.refl _ _⟩
      case round =>
        obtain ⟨k, hk, rfl, hf, hbr⟩ := hrel
        have sa := (hbr.cell (p := ⟨w.heap.size, 1, none⟩) zs).trans s1
        have sb := (hbr.cell (p := ⟨w.heap.size + 1, 1, none⟩) zn').trans n1
        by_cases hlt : k < l1.length
        · have hlt2 : k < l2.length := by have := HG.out.2; omega
          obtain ⟨b1, o1, rfl, hbb1, p0, p1, p2, p3⟩ := (hq1.below hbr).fd hlt
          obtain ⟨b2, o2, rfl, hbb2, q0, q1, q2, q3⟩ := (hq2.below hbr).fd hlt2
          generalize hff : l1.getD k default = f at *
          generalize hgg : l2.getD k default = f2 at *
          have HF := hide (And.intro hff hgg)
          clear hff hgg
          have hne := neq_fd f f2
          have hbW : Below w.heap.size w wr := below_call hb2 (Nat.le_of_lt zs) hbr
          cases hq : fdEq f f2 with
          | true =>
            rw [hq, Bool.not_true] at hne
            have HQ := hide hq
            clear hq
            go_wp2_with fail
            go_quiet (fail)
            go_wp2_with fail
            go_roundw
            case rel =>
              refine ⟨k + 1, hlt, by go_num, hide (fun j hj => ?_), below_dN hbr _⟩
              by_cases e : j = k
              · rw [e, HF.out.1, HF.out.2]; exact HQ.out
              · exact hf.out j (by omega)
            case measure => exact meas_sub k _ hlt
          | false =>
            rw [hq, Bool.not_false] at hne
            have HQ := hide hq
            clear hq
            have hall : Hid (((List.range l1.length).all fun j => fdEq (l1.getD j default) (l2.getD j default)) = false) := hide (by
              rw [List.all_eq_false]
              exact ⟨k, List.mem_range.2 hlt, by rw [HF.out.1, HF.out.2, HQ.out]; simp⟩)
            go_wp2_with fail
            go_quiet (fail)
            go_wp2_with fail
            go_ret
            exact ⟨by rw [hall.out]; rfl, below_dN hbW _⟩
        · obtain rfl : k = l1.length := by omega
          have hall : Hid (((List.range l1.length).all fun j => fdEq (l1.getD j default) (l2.getD j default)) = true) := hide (by
            rw [List.all_eq_true]
            exact fun j hj => hf.out j (List.mem_range.1 hj))
          go_wp2_with fail
          go_ret
          exact ⟨by rw [hall.out]; rfl, below_call hb2 (Nat.le_of_lt zs) hbr⟩
    · have y2 : ((l1.length : Int) != (l2.length : Int)) = true := by rw [bne_iff_ne]; omega
      have hs : sameSch i1 i2 l1 l2 = false := by unfold sameSch; rw [decide_eq_false g2]; simp
      rw [hs]
      clear g1 g2 hs
      go_enter Try.func17, Try.ntmps17
      go_wp2_with fail
      go_ret
      exact ⟨rfl, ((Below.refl _ _).alloc (Nat.le_refl _) _).alloc (by simp) _⟩
  · have y1 : ((i1.toNat : Int) != (i2.toNat : Int)) = true := by rw [bne_iff_ne]; omega
    have hs : sameSch i1 i2 l1 l2 = false := by
      unfold sameSch
      rw [show ((i1.toNat : Int) == (i2.toNat : Int)) = false by rw [beq_eq_false_iff_ne]; omega]
      rfl
    rw [hs]
    clear g1 hs
    go_enter Try.func17, Try.ntmps17
    go_wp2_with fail
    go_ret
    exact ⟨rfl, ((Below.refl _ _).alloc (Nat.le_refl _) _).alloc (by simp) _⟩
end Go.Proofs.Ytlccpchlclpnaaa
