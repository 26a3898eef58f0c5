/- THE WALKS of the store's List, and of the law's 'great'. No statement of the seat is proved here; no condition but sizes. -/
import Derived.Test.YtbgfmcmaklobaaaObU
namespace Go.Proofs.Ytbgfmcmaklobaaa
open Go.RowKit

def ListEnd (w : World) (l : List ByteArray) (c : Nat) (e : Ending) (w' : World) : Prop :=
  Below w.heap.size w w' ∧ ∃ A k, e = .returned (.tuple #[.slice A l.length k, .int .i64 (c : Int)]) ∧ Rd w' w'.heap.size 1 A l.length k (strsV l) ∧ ∀ b, b < w.heap.size → some b ≠ (Value.slice A l.length k).ownBlock
def So.list (s : So) : List ByteArray × Nat := if s.dead = true then ([], 120) else (namesM s.m, 0)
theorem So.list_dead {s : So} (h : s.dead = true) : s.list = ([], 120) := if_pos h
theorem So.list_on {s : So} (h : s.dead = false) : s.list = (namesM s.m, 0) := if_neg (by rw [h]; simp)
set_option maxRecDepth 100000 in
set_option maxHeartbeats 4000000 in
theorem objList (P : Nat → Prop) (w : World) (sb mb N : Nat) (s : So) (h : StR P w sb mb N s) (hN : N ≤ 1000000) :
    Calls Try.prog 20 #[.pointer (some ⟨sb, 0, none⟩)] w (ListEnd w s.list.1 s.list.2) := by
  have c6 := h.bx.cell 6 _ rfl
  have c2 := h.bx.cell 2 _ rfl
  cases hd : s.dead with
  | true =>
    rw [hd] at c6
    have HG := hide (So.list_dead hd)
    clear hd
    go_enter Try.func20, Try.ntmps20
    go_wp2_with fail
    go_ret2
    rw [HG.out]
    exact ⟨Below.refl _ _, none, 0, rfl, Rd.nil _ _ _, fun b _ q => by cases q⟩
  | false =>
  rw [hd] at c6
  have HG := hide (So.list_on hd)
  clear hd
  obtain ⟨D, hD⟩ := h.mp
  have hsz := hD.own.size_le
  have hperm := hD.keys h.ok.di
  go_enter Try.func20, Try.ntmps20
  go_wp2_with fail
  refine (callsIn_wide.1 (maps_Keys_35 (some mb) w)).mono ?_
  rintro e w1 ⟨rfl, rfl⟩
  have hb1 := (Below.refl w.heap.size w).alloc (Nat.le_refl _) (.cells #[.map (some mb)] 49)
  go_wp2_with fail
  refine (callsIn_wide.1 (slices_Sorted_keys_34_35 mb N D elR w hD.own (by unfold maxLen; omega) (by omega))).mono ?_
  rintro e w2 ⟨v2, ss, rfl, hss, hown2, _, hb2⟩
  have hsort : ss.mergeSort leB = (keysM s.m).mergeSort leB := mergeSort_of_perm (hss.trans hperm.symm)
  have hssl : ss.length = (namesM s.m).length := by unfold namesM; rw [List.length_map, ← hsort, List.length_mergeSort]
  have hrow : (ss.mergeSort fun x y => decide (x ≤ y)).map Go.Proofs.encStr = strsV (namesM s.m) := by
    show (ss.mergeSort leB).map Go.Proofs.encStr = _
    rw [hsort]
    unfold strsV namesM
    rw [List.map_map]
    rfl
  rw [hrow, hssl] at hown2
  obtain ⟨A2, c2', rfl⟩ := own_slice hown2
  have hr2 := rd_own hown2
  have hB2 := below_call hb1 hb1.size hb2
  have hne := fun b hb => row_ne_low (b := b) hown2 (Nat.lt_of_lt_of_le hb hb1.size)
  have HX := hide (And.intro hr2 (And.intro hB2 hne))
  clear hr2 hB2 hne hown2 hrow hssl hsort hss hb1 hb2 hperm hD hsz c2 h
  go_wp2_with fail
  go_ret2
  rw [HG.out]
  exact ⟨HX.out.2.1, _, _, rfl, HX.out.1, HX.out.2.2⟩
/-- an op of the law's -/
structure Opn where
  kind : UInt8
  nm : ByteArray
  old : ByteArray
  bs : List UInt8
  bA : Option Addr
  bc : Nat
  n : Int
  keep : List Int
  kA : Option Addr
  kc : Nat
instance : Inhabited Opn := ⟨⟨0, ByteArray.empty, ByteArray.empty, [], none, 0, 0, [], none, 0⟩⟩
def opV (o : Opn) : List Value := [.int .u8 (o.kind.toNat : Int), .string o.nm, .string o.old, .slice o.bA o.bs.length o.bc, .int .i64 o.n, .slice o.kA o.keep.length o.kc]
theorem opV_length (o : Opn) : (opV o).length = 6 := rfl
def opsV (l : List Opn) : List Value := l.flatMap opV
def Opn.great (o : Opn) : Bool := decide (70000 < o.bs.length) || decide (1000 < o.nm.size) || decide (1000 < o.old.size)
set_option maxRecDepth 100000 in
set_option maxHeartbeats 4000000 in
theorem lawGreat12 (w : World) (o : Opn) (hb : o.bs.length ≤ 9223372036854775807) (hn : o.nm.size ≤ 9223372036854775807) (ho : o.old.size ≤ 9223372036854775807) : Calls Try.prog 16 #[.agg (opV o).toArray] w fun e w' => e = .returned (.bool o.great) ∧ Below w.heap.size w w' := by
  obtain ⟨kind, nm, old, bs, bA, bc, n, keep, kA, kc⟩ := o
  dsimp only at hb hn ho
  obtain ⟨g, hg⟩ : ∃ g, Opn.great ⟨kind, nm, old, bs, bA, bc, n, keep, kA, kc⟩ = g := ⟨_, rfl⟩
  have HG := hide hg
  unfold Opn.great at hg
  dsimp only at hg
  have hbB := (Below.refl w.heap.size w).alloc (Nat.le_refl _) (.cells #[.int .u8 (kind.toNat : Int), .string nm, .string old, .slice bA bs.length bc, .int .i64 n, .slice kA keep.length kc] 41)
  rw [HG.out]
  unfold opV
  dsimp only
  by_cases h1 : 70000 < bs.length
  · have t1 : decide ((70000 : Int) < (bs.length : Int)) = true := decide_eq_true (by omega)
    have e : g = true := by rw [← hg]; simp [h1]
    subst e
    clear hg h1
    go_enter Try.func16, Try.ntmps16
    go_wp2_with fail
    go_ret
    exact ⟨rfl, hbB⟩
  · have t1 : decide ((70000 : Int) < (bs.length : Int)) = false := decide_eq_false (by omega)
    by_cases h2 : 1000 < nm.size
    · have t2 : decide ((1000 : Int) < (nm.size : Int)) = true := decide_eq_true (by omega)
      have e : g = true := by rw [← hg]; simp [h2]
      subst e
      clear hg h1 h2
      go_enter Try.func16, Try.ntmps16
      go_wp2_with fail
      go_ret
      exact ⟨rfl, hbB⟩
    · have t2 : decide ((1000 : Int) < (nm.size : Int)) = false := decide_eq_false (by omega)
      by_cases h3 : 1000 < old.size
      · have t3 : decide ((1000 : Int) < (old.size : Int)) = true := decide_eq_true (by omega)
        have e : g = true := by rw [← hg]; simp [h3]
        subst e
        clear hg h1 h2 h3
        go_enter Try.func16, Try.ntmps16
        go_wp2_with fail
        go_ret
        exact ⟨rfl, hbB⟩
      · have t3 : decide ((1000 : Int) < (old.size : Int)) = false := decide_eq_false (by omega)
        have e : g = false := by rw [← hg]; simp [h1, h2, h3]
        subst e
        clear hg h1 h2 h3
        go_enter Try.func16, Try.ntmps16
        go_wp2_with fail
        go_ret
        exact ⟨rfl, hbB⟩
end Go.Proofs.Ytbgfmcmaklobaaa
