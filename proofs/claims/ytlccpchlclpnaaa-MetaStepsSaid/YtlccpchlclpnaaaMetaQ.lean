/- WALKS: Equal at fields, the document's Texts, meta's names, GreatSnap. No statement of the seat is proved here; no condition. -/
import Derived.Test.YtlccpchlclpnaaaMetaP
import Derived.Test.YtlccpchlclpnaaaMetaF
namespace Go.Proofs.Ytlccpchlclpnaaa
open Go.RowKit

theorem range_bad {n k : Nat} {p : Nat → Bool} (hk : k < n) (h : p k = false) : (List.range n).all p = false := by
  rw [List.all_eq_false]
  exact ⟨k, List.mem_range.2 hk, by rw [h]; simp⟩
theorem range_good {n : Nat} {p : Nat → Bool} (h : ∀ j, j < n → p j = true) : (List.range n).all p = true := by
  rw [List.all_eq_true]
  exact fun j hj => h j (List.mem_range.1 hj)
/-- two lists of fields: the same? -/
def fdsEq (l1 l2 : List Fd) : Bool := decide (l1.length = l2.length) && (List.range l1.length).all fun j => fdEq (l1.getD j default) (l2.getD j default)
set_option maxRecDepth 100000 in
set_option maxHeartbeats 2000000 in
theorem equalF (w : World) (B n1 c1 n2 c2 : Nat) (A1 A2 : Option Addr) (l1 l2 : List Fd) (hr1 : Rd w B 4 A1 n1 c1 (fdsV l1)) (hr2 : Rd w B 4 A2 n2 c2 (fdsV l2)) (hB : B ≤ w.heap.size) (hmax : l1.length ≤ 1000000) :
    Calls Try.prog 82 #[.slice A1 n1 c1, .slice A2 n2 c2] w fun e w' => e = .returned (.bool (fdsEq l1 l2)) ∧ Below w.heap.size w w' := by
  obtain rfl := hr1.lenF
  obtain rfl := hr2.lenF
  have hr1 := hr1.more hB
  have hr2 := hr2.more hB
  by_cases g2 : l1.length = l2.length
  · have y2 : ((l1.length : Int) != (l2.length : Int)) = false := by rw [bne_eq_false_iff_eq]; omega
    have hs : fdsEq l1 l2 = (List.range l1.length).all fun j => fdEq (l1.getD j default) (l2.getD j default) := by
      unfold fdsEq
      rw [decide_eq_true g2, Bool.true_and]
    rw [hs]
    have HG := hide g2
    clear g2 hs
    go_enter Try.func82, Try.ntmps82
    go_wp2_with fail
    go_loopw [13] (fun iv wr => ∃ k : Nat, k ≤ l1.length ∧ iv = .int .i64 (k : Int) ∧ Hid (∀ j, j < k → fdEq (l1.getD j default) (l2.getD j default) = true) ∧ Below w.heap.size w wr) (fun iv _ => l1.length - (intOf iv).toNat)
    case atStart => exact ⟨0, Nat.zero_le _, rfl, hide (fun j h => by omega), Below.refl _ _⟩
    case round =>
      obtain ⟨k, hk, rfl, hf, hbr⟩ := hrel
      by_cases hlt : k < l1.length
      · have hlt2 : k < l2.length := by have := HG.out; omega
        obtain ⟨b1, o1, rfl, hbb1, p0, p1, p2, p3⟩ := (hr1.below hbr).fd hlt
        obtain ⟨b2, o2, rfl, hbb2, q0, q1, q2, q3⟩ := (hr2.below hbr).fd hlt2
        generalize hff : l1.getD k default = f at *
        generalize hgg : l2.getD k default = f2 at *
        have HF := hide (And.intro hff hgg)
        clear hff hgg
        have hne := neq_fd f f2
        cases hq : fdEq f f2 with
        | true =>
          rw [hq, Bool.not_true] at hne
          have HQ := hide hq
          clear hq
          go_wp2_with fail
          go_quiet (fail)
          go_wp2_with fail
          go_roundw
          case rel =>
            refine ⟨k + 1, hlt, by go_num, hide (fun j hj => ?_), below_dN hbr _⟩
            by_cases e : j = k
            · rw [e, HF.out.1, HF.out.2]; exact HQ.out
            · exact hf.out j (by omega)
          case measure => exact meas_sub k _ hlt
        | false =>
          rw [hq, Bool.not_false] at hne
          have HQ := hide hq
          clear hq
          have hall : Hid (((List.range l1.length).all fun j => fdEq (l1.getD j default) (l2.getD j default)) = false) := hide (range_bad hlt (by rw [HF.out.1, HF.out.2, HQ.out]))
          go_wp2_with fail
          go_quiet (fail)
          go_wp2_with fail
          go_ret
          exact ⟨by rw [hall.out]; rfl, below_dN hbr _⟩
      · obtain rfl : k = l1.length := by omega
        have hall : Hid (((List.range l1.length).all fun j => fdEq (l1.getD j default) (l2.getD j default)) = true) := hide (range_good hf.out)
        go_wp2_with fail
        go_ret
        exact ⟨by rw [hall.out]; rfl, hbr⟩
  · have y2 : ((l1.length : Int) != (l2.length : Int)) = true := by rw [bne_iff_ne]; omega
    have hs : fdsEq l1 l2 = false := by unfold fdsEq; rw [decide_eq_false g2]; rfl
    rw [hs]
    clear g2 hs
    go_enter Try.func82, Try.ntmps82
    go_wp2_with fail
    go_ret
    exact ⟨rfl, Below.refl _ _⟩
/-- two lists of texts: the same? -/
def txEq (l1 l2 : List ByteArray) : Bool := decide (l1.length = l2.length) && (List.range l1.length).all fun j => (l1.getD j default).toList == (l2.getD j default).toList
set_option maxRecDepth 100000 in
set_option maxHeartbeats 2000000 in
theorem refTexts (w : World) (B n1 c1 n2 c2 : Nat) (A1 A2 : Option Addr) (l1 l2 : List ByteArray) (hr1 : Rd w B 1 A1 n1 c1 (strsV l1)) (hr2 : Rd w B 1 A2 n2 c2 (strsV l2)) (hB : B ≤ w.heap.size) :
    Calls Try.prog 76 #[.slice A1 n1 c1, .slice A2 n2 c2] w fun e w' => e = .returned (.bool (txEq l1 l2)) ∧ Below w.heap.size w w' := by
  obtain rfl := hr1.lenT
  obtain rfl := hr2.lenT
  have hmax : l1.length ≤ 9223372036854775807 := by have h1 := hr1.le; have h2 := hr1.cap; unfold maxLen at h2; omega
  have hr1 := hr1.more hB
  have hr2 := hr2.more hB
  by_cases g2 : l1.length = l2.length
  · have y2 : ((l1.length : Int) != (l2.length : Int)) = false := by rw [bne_eq_false_iff_eq]; omega
    have hs : txEq l1 l2 = (List.range l1.length).all fun j => (l1.getD j default).toList == (l2.getD j default).toList := by
      unfold txEq
      rw [decide_eq_true g2, Bool.true_and]
    rw [hs]
    have HG := hide g2
    clear g2 hs
    go_enter Try.func76, Try.ntmps76
    go_wp2_with fail
    go_loopw [5] (fun iv wr => ∃ k : Nat, k ≤ l1.length ∧ iv = .int .i64 (k : Int) ∧ Hid (∀ j, j < k → ((l1.getD j default).toList == (l2.getD j default).toList) = true) ∧ Below w.heap.size w wr) (fun iv _ => l1.length - (intOf iv).toNat)
    case atStart => exact ⟨0, Nat.zero_le _, rfl, hide (fun j h => by omega), Below.refl _ _⟩
    case round =>
      obtain ⟨k, hk, rfl, hf, hbr⟩ := hrel
      by_cases hlt : k < l1.length
      · have hlt2 : k < l2.length := by have := HG.out; omega
        obtain ⟨b1, o1, rfl, hbb1, p0⟩ := (hr1.below hbr).st hlt
        obtain ⟨b2, o2, rfl, hbb2, q0⟩ := (hr2.below hbr).st hlt2
        generalize hff : l1.getD k default = f at *
        generalize hgg : l2.getD k default = f2 at *
        have HF := hide (And.intro hff hgg)
        clear hff hgg
        cases hq : f.toList == f2.toList with
        | true =>
          have HQ := hide hq
          go_wp2_with fail
          go_quiet (fail)
          go_wp2_with fail
          go_roundw
          case rel =>
            refine ⟨k + 1, hlt, by go_num, hide (fun j hj => ?_), below_dN hbr _⟩
            by_cases e : j = k
            · rw [e, HF.out.1, HF.out.2]; exact HQ.out
            · exact hf.out j (by omega)
          case measure => simp [intOf]; omega
        | false =>
          have hall : Hid (((List.range l1.length).all fun j => (l1.getD j default).toList == (l2.getD j default).toList) = false) := hide (range_bad hlt (by rw [HF.out.1, HF.out.2, hq]))
          go_wp2_with fail
          go_quiet (fail)
          go_wp2_with fail
          go_ret
          exact ⟨by rw [hall.out]; rfl, below_dN hbr _⟩
      · obtain rfl : k = l1.length := by omega
        have hall : Hid (((List.range l1.length).all fun j => (l1.getD j default).toList == (l2.getD j default).toList) = true) := hide (range_good hf.out)
        go_wp2_with fail
        go_ret
        exact ⟨by rw [hall.out]; rfl, hbr⟩
  · have y2 : ((l1.length : Int) != (l2.length : Int)) = true := by rw [bne_iff_ne]; omega
    have hs : txEq l1 l2 = false := by unfold txEq; rw [decide_eq_false g2]; rfl
    rw [hs]
    clear g2 hs
    go_enter Try.func76, Try.ntmps76
    go_wp2_with fail
    go_ret
    exact ⟨rfl, Below.refl _ _⟩
/-- may they be a snapshot's names? -/
def namesOk (l : List ByteArray) : Bool := decide (l.length ≤ 8) && (List.range l.length).all fun i => pathOk (l.getD i default) && !((l.take i).any fun y => (l.getD i default).toList == y.toList)
set_option maxRecDepth 100000 in
set_option maxHeartbeats 2000000 in
theorem metaNames (w : World) (n c : Nat) (A : Option Addr) (l : List ByteArray) (hr : Rd w w.heap.size 1 A n c (strsV l)) :
    Calls Try.prog 83 #[.slice A n c] w fun e w' => e = .returned (.bool (namesOk l)) ∧ Below w.heap.size w w' := by
  obtain rfl := hr.lenT
  by_cases g8 : l.length ≤ 8
  · have t1 : decide ((8 : Int) < (l.length : Int)) = false := decide_eq_false (by omega)
    have hs : namesOk l = (List.range l.length).all fun i => pathOk (l.getD i default) && !((l.take i).any fun y => (l.getD i default).toList == y.toList) := by
      unfold namesOk
      rw [decide_eq_true g8, Bool.true_and]
    obtain ⟨res, hres⟩ : ∃ res, res = namesOk l := ⟨_, rfl⟩
    rw [← hres]
    rw [hs] at hres
    have HRES := hide hres
    clear hs hres
    go_enter Try.func83, Try.ntmps83
    go_wp2_with fail
    go_loopw [10] (fun iv wr => ∃ k : Nat, k ≤ l.length ∧ iv = .int .i64 (k : Int) ∧ Hid (∀ j, j < k → (fun i => pathOk (l.getD i default) && !((l.take i).any fun y => (l.getD i default).toList == y.toList)) j = true) ∧ Below w.heap.size w wr) (fun iv _ => l.length - (intOf iv).toNat)
    case atStart => exact ⟨0, Nat.zero_le _, rfl, hide (fun j h => by omega), Below.refl _ _⟩
    case round =>
      obtain ⟨k, hk, rfl, hf, hbr⟩ := hrel
      by_cases hlt : k < l.length
      · have hrr := (hr.below hbr).more hbr.size
        obtain ⟨b1, o1, rfl, hbb1, p0⟩ := hrr.st hlt
        have hcut := fun W => cut_hi tyStrs (some ⟨b1, o1, none⟩) l.length c .i64 (k : Int) k rfl (by have := hr.le; omega) W
        have hcut2 := fun W => run_cut_hi tyStrs (some ⟨b1, o1, none⟩) l.length c .i64 (k : Int) k rfl (by have := hr.le; omega) W
        have hpre : Rd wr wr.heap.size 1 (some ⟨b1, o1, none⟩) k c (strsV (l.take k)) := by
          have := hrr.pre (hi := k) (by omega)
          simpa [strsV, List.map_take] using this
        have HPRE := hide hpre
        clear hpre
        obtain ⟨x, hx⟩ : ∃ x, x = l.getD k default := ⟨_, rfl⟩
        rw [← hx] at p0
        have HX := hide hx
        clear hx
        go_wp2_with fail
        refine (metaNamed wr x).mono ?_
        rintro e w1 ⟨rfl, hb1⟩
        cases hq : pathOk x with
        | false =>
          have hall : Hid (((List.range l.length).all fun i => pathOk (l.getD i default) && !((l.take i).any fun y => (l.getD i default).toList == y.toList)) = false) := hide (range_bad hlt (by rw [← HX.out, hq]; rfl))
          clear hq
          go_wp2_with fail
          go_ret
          exact ⟨by rw [HRES.out, hall.out]; rfl, below_call hbr hbr.size hb1⟩
        | true =>
          have HQ := hide hq
          clear hq
          go_wp2_with fail
          refine (containsT w1 wr.heap.size k c _ (l.take k) (HPRE.out.below hb1) (by simp; omega) x).mono ?_
          rintro e w2 ⟨rfl, rfl⟩
          cases ha : (l.take k).any fun y => x.toList == y.toList with
          | true =>
            have hall : Hid (((List.range l.length).all fun i => pathOk (l.getD i default) && !((l.take i).any fun y => (l.getD i default).toList == y.toList)) = false) := hide (range_bad hlt (by rw [← HX.out, ha, HQ.out]; rfl))
            clear ha
            go_wp2_with fail
            go_ret
            exact ⟨by rw [HRES.out, hall.out]; rfl, below_call hbr hbr.size hb1⟩
          | false =>
            have HA := hide ha
            clear ha
            go_wp2_with fail
            go_roundw
            case rel =>
              refine ⟨k + 1, hlt, by go_num, hide (fun j hj => ?_), below_call hbr hbr.size hb1⟩
              by_cases e : j = k
              · rw [e, ← HX.out]; rw [HQ.out, HA.out]; rfl
              · exact hf.out j (by omega)
            case measure => exact meas_sub k _ hlt
      · obtain rfl : k = l.length := by omega
        have hall : Hid (((List.range l.length).all fun i => pathOk (l.getD i default) && !((l.take i).any fun y => (l.getD i default).toList == y.toList)) = true) := hide (range_good hf.out)
        go_wp2_with fail
        go_ret
        exact ⟨by rw [HRES.out, hall.out]; rfl, hbr⟩
  · have t1 : decide ((8 : Int) < (l.length : Int)) = true := decide_eq_true (by omega)
    have hs : namesOk l = false := by unfold namesOk; rw [decide_eq_false g8]; rfl
    rw [hs]
    clear g8 hs
    go_enter Try.func83, Try.ntmps83
    go_wp2_with fail
    go_ret
    exact ⟨rfl, Below.refl _ _⟩
end Go.Proofs.Ytlccpchlclpnaaa
