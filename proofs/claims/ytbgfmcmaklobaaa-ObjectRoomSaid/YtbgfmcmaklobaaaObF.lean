/- PLAIN: forty changes of a store with a fuse, or with a fault. No statement of the seat is proved here; no condition. -/
import Derived.Test.YtbgfmcmaklobaaaObA
import Derived.Deep.CutBlock
namespace Go.Proofs.Ytbgfmcmaklobaaa
open Go.RowKit

def nmAt (i : Nat) : ByteArray := ⟨#[UInt8.ofNat (97 + i % 10)]⟩
def opAt (k : UInt8) (s : So) (i : Nat) : So × Nat := if i < 10 then s.put (nmAt i) [k] else if i < 30 then s.sync (nmAt i) else s.del (nmAt i)
def opN (k : UInt8) (s : So) : Nat → So
  | 0 => s
  | i + 1 => (opAt k (opN k s i) i).1
theorem nmAt_ok (i : Nat) : pathOk (nmAt i) = true := by
  have h : ∀ j, j < 10 → pathOk ⟨#[UInt8.ofNat (97 + j)]⟩ = true := by decide +kernel
  exact h (i % 10) (Nat.mod_lt _ (by decide))
theorem nmAt_ne {i j : Nat} (h : i % 10 ≠ j % 10) : nmAt i ≠ nmAt j := by
  intro q
  unfold nmAt at q
  injection q with q
  have q := congrArg (fun a : Array UInt8 => a.toList) q
  simp only [List.cons.injEq, and_true] at q
  have q := congrArg UInt8.toNat q
  rw [UInt8.toNat_ofNat', UInt8.toNat_ofNat'] at q
  omega
theorem nmAt_mod (i : Nat) : nmAt (i % 10) = nmAt i := by unfold nmAt; rw [Nat.mod_mod]
theorem mhas_put (m : Mp) (s r : ByteArray) (t : Th) : mhas (mput m s t) r = (decide (r = s) || mhas m r) := by
  by_cases e : r = s
  · subst e; unfold mhas; rw [mget_put_same]; simp
  · unfold mhas; rw [mget_put_other e]; simp [e]
/-- a store, i changes in: what there is -/
structure Inv (s : So) (i : Nat) : Prop where
  q : s.quota = 1000
  u : s.used ≤ i
  d : s.dead = false
  h : ∀ j, j < 10 → mhas s.m (nmAt j) = decide (j < i)
theorem mhas_get {m : Mp} {s : ByteArray} (h : mhas m s = true) : ∃ t, mget m s = some t := Option.isSome_iff_exists.1 h
/-- a change that may be done is done -/
theorem op_on {k : UInt8} {s : So} {i : Nat} (h : Inv s i) (hi : i < 30) (hc : s.change.2 = 0) (hd : s.change.1.dead = false) : (opAt k s i).2 = 0 ∧ Inv (opAt k s i).1 (i + 1) ∧ (opAt k s i).1.fuse = s.change.1.fuse ∧ (opAt k s i).1.fault = s.change.1.fault := by
  obtain ⟨q, u, d, g⟩ := h
  have cm := So.change_m s
  have cu := So.change_used s
  have cq := So.change_quota s
  unfold opAt
  by_cases h1 : i < 10
  · rw [if_pos h1]
    have hh : mhas s.m (nmAt i) = false := by rw [g i h1]; simp
    have e : s.put (nmAt i) [k] = (s.change.1.add (nmAt i) [k], s.change.2) := by
      unfold So.put
      rw [if_neg (by rw [d]; simp), if_neg (by rw [nmAt_ok]; simp), if_neg (by rw [hh]; simp), if_neg (by simp), if_neg (by simp; omega), if_neg (by rw [hc]; simp)]
    rw [e]
    refine ⟨hc, ⟨by show s.change.1.quota = _; rw [cq, q], by show s.change.1.used + _ ≤ _; rw [cu]; simp; omega, hd, fun j hj => ?_⟩, rfl, rfl⟩
    show mhas (mput s.change.1.m _ _) _ = _
    rw [mhas_put, cm, g j hj]
    by_cases e2 : j = i
    · subst e2; simp
    · have : ¬ nmAt j = nmAt i := nmAt_ne (by omega)
      simp only [this, decide_false, Bool.false_or]
      have : (j < i) = (j < i + 1) := by rw [eq_iff_iff]; omega
      simp only [this]
  · rw [if_neg h1, if_pos hi]
    have hh : mhas s.m (nmAt i) = true := by rw [← nmAt_mod, g (i % 10) (Nat.mod_lt _ (by decide))]; simp; omega
    obtain ⟨t, ht⟩ := mhas_get hh
    have e : s.sync (nmAt i) = ({ s.change.1 with m := mput s.change.1.m (nmAt i) ⟨t.bs, false⟩ }, 0) := by
      rw [So.sync_on d ht, if_pos hc]
    rw [e]
    refine ⟨rfl, ⟨by show s.change.1.quota = _; rw [cq, q], by show s.change.1.used ≤ _; rw [cu]; omega, hd, fun j hj => ?_⟩, rfl, rfl⟩
    show mhas (mput s.change.1.m _ _) _ = _
    rw [mhas_put, cm, g j hj]
    have a : (j < i) := by omega
    have b : (j < i + 1) := by omega
    simp [a, b]
/-- the change that burns the fuse -/
theorem op_burn {k : UInt8} {s : So} {i : Nat} (h : Inv s i) (hi : i < 30) (hf : s.fuse = 0) : (opAt k s i).2 = 120 ∧ (opAt k s i).1.dead = true := by
  obtain ⟨q, u, d, g⟩ := h
  have hc : s.change = ({ s with dead := true }, 120) := by unfold So.change; rw [if_pos hf]
  unfold opAt
  by_cases h1 : i < 10
  · rw [if_pos h1]
    have hh : mhas s.m (nmAt i) = false := by rw [g i h1]; simp
    have e : s.put (nmAt i) [k] = (s.change.1.add (nmAt i) [k], s.change.2) := by
      unfold So.put
      rw [if_neg (by rw [d]; simp), if_neg (by rw [nmAt_ok]; simp), if_neg (by rw [hh]; simp), if_neg (by simp), if_neg (by simp; omega), if_neg (by rw [hc]; simp)]
    rw [e, hc]
    exact ⟨rfl, rfl⟩
  · rw [if_neg h1, if_pos hi]
    have hh : mhas s.m (nmAt i) = true := by rw [← nmAt_mod, g (i % 10) (Nat.mod_lt _ (by decide))]; simp; omega
    obtain ⟨t, ht⟩ := mhas_get hh
    rw [So.sync_on d ht, if_neg (by rw [hc]; simp), hc]
    exact ⟨rfl, rfl⟩
theorem op_dead {k : UInt8} {s : So} {i : Nat} (h : s.dead = true) : opAt k s i = (s, 120) := by
  unfold opAt
  split
  · unfold So.put; rw [if_pos h]
  split
  · exact So.sync_dead h _
  · exact So.del_dead h _
/-- with no fuse and no fault nothing fails so -/
theorem op_free {k : UInt8} {s : So} {i : Nat} (h1 : s.fuse = -1) (h2 : s.fault = -1) : (opAt k s i).2 ≠ 121 ∧ (opAt k s i).1.fuse = -1 ∧ (opAt k s i).1.fault = -1 := by
  have hc : s.change = ({ s with fuse := -1, fault := -1 }, 0) := by
    unfold So.change
    rw [if_neg (by rw [h1]; decide), h1, h2]
    rfl
  unfold opAt
  split
  · unfold So.put
    rw [hc]
    repeat' split
    all_goals first | exact ⟨by simp, h1, h2⟩ | exact ⟨by simp, rfl, rfl⟩
  split
  · unfold So.sync
    rw [hc]
    repeat' split
    all_goals first | exact ⟨by simp, h1, h2⟩ | exact ⟨by simp, rfl, rfl⟩
  · unfold So.del
    rw [hc]
    repeat' split
    all_goals first | exact ⟨by simp, h1, h2⟩ | exact ⟨by simp, rfl, rfl⟩ | (unfold So.drop; split <;> exact ⟨by simp, rfl, rfl⟩)
def fusedS (n : Nat) : So := { So.new 1000 with fuse := n }
def faultS (n : Nat) : So := { So.new 1000 with fault := n }
theorem inv0 (n : Nat) : Inv (fusedS n) 0 ∧ Inv (faultS n) 0 := ⟨⟨rfl, Int.le_refl _, rfl, fun j _ => rfl⟩, ⟨rfl, Int.le_refl _, rfl, fun j _ => rfl⟩⟩
theorem fuse_on (k : UInt8) {n : Nat} (hn : n < 30) : ∀ i, i ≤ n → Inv (opN k (fusedS n) i) i ∧ (opN k (fusedS n) i).fuse = (n : Int) - i ∧ (opN k (fusedS n) i).fault = -1
  | 0, _ => ⟨(inv0 n).1, by show (n : Int) = _; omega, rfl⟩
  | i + 1, hi => by
    obtain ⟨a, b, c⟩ := fuse_on k hn i (by omega)
    have hc : (opN k (fusedS n) i).change = ({ opN k (fusedS n) i with fuse := (n : Int) - (i + 1 : Nat), fault := -1 }, 0) := by
      unfold So.change
      rw [if_neg (by rw [b]; omega), if_neg (by rw [c]; decide)]
      have e1 : max ((opN k (fusedS n) i).fuse - 1) (-1) = (n : Int) - (i + 1 : Nat) := by rw [b]; omega
      have e2 : max ((opN k (fusedS n) i).fault - 1) (-1) = -1 := by rw [c]; decide
      rw [e1, e2]
    obtain ⟨_, d, e, f⟩ := op_on (k := k) a (by omega) (by rw [hc]) (by rw [hc]; exact a.d)
    rw [hc] at e f
    exact ⟨d, e, f⟩
theorem fault_on (k : UInt8) {n : Nat} (hn : n < 30) : ∀ i, i ≤ n → Inv (opN k (faultS n) i) i ∧ (opN k (faultS n) i).fault = (n : Int) - i ∧ (opN k (faultS n) i).fuse = -1
  | 0, _ => ⟨(inv0 n).2, by show (n : Int) = _; omega, rfl⟩
  | i + 1, hi => by
    obtain ⟨a, b, c⟩ := fault_on k hn i (by omega)
    have hc : (opN k (faultS n) i).change = ({ opN k (faultS n) i with fuse := -1, fault := (n : Int) - (i + 1 : Nat) }, 0) := by
      unfold So.change
      rw [if_neg (by rw [c]; decide), if_neg (by rw [b]; omega)]
      have e1 : max ((opN k (faultS n) i).fault - 1) (-1) = (n : Int) - (i + 1 : Nat) := by rw [b]; omega
      have e2 : max ((opN k (faultS n) i).fuse - 1) (-1) = -1 := by rw [c]; decide
      rw [e1, e2]
    obtain ⟨_, d, e, f⟩ := op_on (k := k) a (by omega) (by rw [hc]) (by rw [hc]; exact a.d)
    rw [hc] at e f
    exact ⟨d, f, e⟩
theorem fuse_dead (k : UInt8) {n : Nat} (hn : n < 30) : ∀ i, n < i → (opN k (fusedS n) i).dead = true
  | 0, h => by omega
  | i + 1, h => by
    by_cases e : i = n
    · subst e
      obtain ⟨a, b, c⟩ := fuse_on k hn i (Nat.le_refl _)
      exact (op_burn (k := k) a (by omega) (by rw [b]; omega)).2
    · have := fuse_dead k hn i (by omega)
      show (opAt k _ i).1.dead = true
      rw [op_dead this]
      exact this
/-- with a fuse of n just n changes are done, then the store is dead -/
theorem fuse_law (k : UInt8) {n : Nat} (hn : n < 30) (i : Nat) : ((opAt k (opN k (fusedS n) i) i).2 = 0 ↔ i < n) ∧ (opN k (fusedS n) (i + 1)).dead = decide (n ≤ i) := by
  rcases Nat.lt_trichotomy i n with h | h | h
  · obtain ⟨a, b, c⟩ := fuse_on k hn i (by omega)
    have d := (fuse_on k hn (i + 1) (by omega)).1.d
    have hc : (opN k (fusedS n) i).change.2 = 0 := by
      unfold So.change
      rw [if_neg (by rw [b]; omega), if_neg (by rw [c]; decide)]
    have hd : (opN k (fusedS n) i).change.1.dead = false := by
      unfold So.change
      rw [if_neg (by rw [b]; omega)]
      exact a.d
    exact ⟨⟨fun _ => h, fun _ => (op_on (k := k) a (by omega) hc hd).1⟩, by rw [d]; exact (decide_eq_false (by omega)).symm⟩
  · subst h
    obtain ⟨a, b, c⟩ := fuse_on k hn i (Nat.le_refl _)
    have := op_burn (k := k) a (by omega) (by rw [b]; omega)
    exact ⟨⟨fun q => (by rw [this.1] at q; cases q), fun q => by omega⟩, by rw [show (opN k (fusedS i) (i + 1)).dead = true from this.2]; simp⟩
  · have := fuse_dead k hn i h
    refine ⟨⟨fun q => (by rw [op_dead this] at q; cases q), fun q => by omega⟩, ?_⟩
    rw [fuse_dead k hn (i + 1) (by omega)]
    exact (decide_eq_true (by omega)).symm
/-- the change that meets the fault -/
theorem op_fault {k : UInt8} {s : So} {i : Nat} (h : Inv s i) (hi : i < 30) (hf : s.fault = 0) (hu : s.fuse = -1) : (opAt k s i).2 = 121 ∧ (opAt k s i).1.fuse = -1 ∧ (opAt k s i).1.fault = -1 := by
  obtain ⟨q, u, d, g⟩ := h
  have hc : s.change = ({ s with fuse := -1, fault := -1 }, 121) := by
    unfold So.change
    rw [if_neg (by rw [hu]; decide), hf, hu]
    rfl
  unfold opAt
  by_cases h1 : i < 10
  · rw [if_pos h1]
    have hh : mhas s.m (nmAt i) = false := by rw [g i h1]; simp
    have e : s.put (nmAt i) [k] = s.change := by
      unfold So.put
      rw [if_neg (by rw [d]; simp), if_neg (by rw [nmAt_ok]; simp), if_neg (by rw [hh]; simp), if_neg (by simp), if_neg (by simp; omega), if_pos (by rw [hc])]
    rw [e, hc]
    exact ⟨rfl, rfl, rfl⟩
  · rw [if_neg h1, if_pos hi]
    have hh : mhas s.m (nmAt i) = true := by rw [← nmAt_mod, g (i % 10) (Nat.mod_lt _ (by decide))]; simp; omega
    obtain ⟨t, ht⟩ := mhas_get hh
    rw [So.sync_on d ht, if_neg (by rw [hc]; simp), hc]
    exact ⟨rfl, rfl, rfl⟩
theorem fault_gone (k : UInt8) {n : Nat} (hn : n < 30) : ∀ i, n < i → (opN k (faultS n) i).fuse = -1 ∧ (opN k (faultS n) i).fault = -1
  | 0, h => by omega
  | i + 1, h => by
    by_cases e : i = n
    · subst e
      obtain ⟨a, b, c⟩ := fault_on k hn i (Nat.le_refl _)
      exact (op_fault (k := k) a (by omega) (by rw [b]; omega) c).2
    · obtain ⟨a, b⟩ := fault_gone k hn i (by omega)
      exact (op_free (k := k) (i := i) a b).2
/-- with a fault of n the change behind n others fails, and no other one -/
theorem fault_law (k : UInt8) {n : Nat} (hn : n < 30) (i : Nat) : (opAt k (opN k (faultS n) i) i).2 = 121 ↔ i = n := by
  rcases Nat.lt_trichotomy i n with h | h | h
  · obtain ⟨a, b, c⟩ := fault_on k hn i (by omega)
    have hc : (opN k (faultS n) i).change.2 = 0 := by
      unfold So.change
      rw [if_neg (by rw [c]; decide), if_neg (by rw [b]; omega)]
    have hd : (opN k (faultS n) i).change.1.dead = false := by
      unfold So.change
      rw [if_neg (by rw [c]; decide)]
      exact a.d
    have := (op_on (k := k) a (by omega) hc hd).1
    exact ⟨fun q => (by rw [this] at q; cases q), fun q => by omega⟩
  · subst h
    obtain ⟨a, b, c⟩ := fault_on k hn i (Nat.le_refl _)
    exact ⟨fun _ => rfl, fun _ => (op_fault (k := k) a (by omega) (by rw [b]; omega) c).1⟩
  · obtain ⟨a, b⟩ := fault_gone k hn i h
    exact ⟨fun q => absurd q (op_free (k := k) (i := i) a b).1, fun q => by omega⟩
end Go.Proofs.Ytbgfmcmaklobaaa
