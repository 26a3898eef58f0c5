/- WALKS of cells: which may be one, and which value it is. No statement of the seat is proved here; no condition. -/
import Derived.Test.YtlccpchlclpnaaaVal
namespace Go.Proofs.Ytlccpchlclpnaaa
open Go.RowKit

structure Cl where
  kind : UInt8
  n : Int
  s : ByteArray
instance : Inhabited Cl := ⟨⟨0, 0, ⟨#[]⟩⟩⟩
def clV (c : Cl) : List Value := [.int .u8 (c.kind.toNat : Int), .int .i64 c.n, .string c.s]
def clsV (l : List Cl) : List Value := l.flatMap clV
theorem clV_length (c : Cl) : (clV c).length = 3 := rfl
theorem clsV_cons (c : Cl) (l : List Cl) : clsV (c :: l) = clV c ++ clsV l := rfl
theorem clsV_append (a b : List Cl) : clsV (a ++ b) = clsV a ++ clsV b := by simp [clsV]
theorem clsV_length (l : List Cl) : (clsV l).length = l.length * 3 := by
  induction l with
  | nil => rfl
  | cons f l ih => rw [clsV_cons, List.length_append, ih, clV_length, List.length_cons]; omega
theorem clsV_get (l : List Cl) (k j : Nat) (hk : k < l.length) (hj : j < 3) : (clsV l)[k * 3 + j]? = (clV l[k])[j]? := by
  induction l generalizing k with
  | nil => simp at hk
  | cons f l ih =>
    rw [clsV_cons]
    cases k with
    | zero => rw [List.getElem?_append_left (by rw [clV_length]; omega)]; simp
    | succ k =>
      rw [List.getElem?_append_right (by rw [clV_length]; omega), clV_length, show (k + 1) * 3 + j - 3 = k * 3 + j by omega]
      rw [ih k (by simpa using hk)]
      simp
theorem clsV_one (l : List Cl) : ∀ u ∈ clsV l, u.oneCell' = true := by
  intro u hu
  obtain ⟨f, _, hf⟩ := List.mem_flatMap.1 hu
  simp only [clV, List.mem_cons, List.not_mem_nil, or_false] at hf
  rcases hf with rfl | rfl | rfl <;> rfl
theorem Rd.lenC {w : World} {B n c : Nat} {A : Option Addr} {l : List Cl} (h : Rd w B 3 A n c (clsV l)) : n = l.length := by
  have := h.len
  rw [clsV_length] at this
  omega
theorem Rd.cl {w : World} {B n c : Nat} {A : Option Addr} {l : List Cl} (h : Rd w B 3 A n c (clsV l)) {k : Nat} (hk : k < l.length) :
    ∃ b off, A = some ⟨b, off, none⟩ ∧ b < B ∧ w.cell? ⟨b, off + k * 3, none⟩ = some (.int .u8 ((l.getD k default).kind.toNat : Int)) ∧ w.cell? ⟨b, off + k * 3 + 1, none⟩ = some (.int .i64 (l.getD k default).n) ∧
      w.cell? ⟨b, off + k * 3 + 2, none⟩ = some (.string (l.getD k default).s) := by
  have hn : 0 < n := by
    have := h.len
    rw [clsV_length] at this
    omega
  obtain ⟨b, off, e, hb, hc⟩ := h.at_ hn
  have hd : l.getD k default = l[k] := by simp [List.getD, hk]
  have g : ∀ j, j < 3 → (clsV l)[k * 3 + j]? = (clV (l.getD k default))[j]? := fun j hj => by rw [hd]; exact clsV_get l k j hk hj
  exact ⟨b, off, e, hb, hc (k * 3 + 0) _ (g 0 (by omega)), hc (k * 3 + 1) _ (g 1 (by omega)), hc (k * 3 + 2) _ (g 2 (by omega))⟩

/-- is it the empty text? -/
def emp (s : ByteArray) : Bool := s.toList.isEmpty
theorem emp_size (s : ByteArray) : emp s = decide (s.size = 0) := by
  unfold emp
  rw [Lib.toList_data, Lib.size_eq]
  cases s.data.toList <;> simp
/-- the error of a cell -/
def cellErr (c : Cl) : Nat :=
  if 3 < c.kind.toNat then 10
  else if (c.kind.toNat ≠ 3 ∧ emp c.s = false) ∨ (c.kind.toNat ≠ 1 ∧ c.kind.toNat ≠ 2 ∧ c.n ≠ 0) ∨ (c.kind.toNat = 2 ∧ c.n ≠ 0 ∧ c.n ≠ 1) then 1
  else if 64 < c.s.size then 5 else 0

set_option maxRecDepth 100000 in
set_option maxHeartbeats 2000000 in
theorem refCell (w : World) (c : Cl) : Calls Try.prog 86 #[.agg #[.int .u8 (c.kind.toNat : Int), .int .i64 c.n, .string c.s]] w fun e w' => e = .returned (.int .i64 (cellErr c : Int)) ∧ Below w.heap.size w w' := by
  have hb : c.kind.toNat < 256 := c.kind.toNat_lt
  have hE : emp c.s = c.s.toList.isEmpty := rfl
  have hZ := emp_size c.s
  generalize hk : c.kind.toNat = k at *
  generalize hn : c.n = n at *
  generalize hs : c.s = s at *
  have hce : cellErr c = if 3 < k then 10 else if (k ≠ 3 ∧ emp s = false) ∨ (k ≠ 1 ∧ k ≠ 2 ∧ n ≠ 0) ∨ (k = 2 ∧ n ≠ 0 ∧ n ≠ 1) then 1 else if 64 < s.size then 5 else 0 := by unfold cellErr; rw [hk, hn, hs]
  clear hk hn hs
  by_cases h3 : 3 < k
  · have t1 : decide ((3 : Int) < (k : Int)) = true := decide_eq_true (by omega)
    rw [if_pos h3] at hce
    rw [hce]
    clear h3 hE hZ hce
    go_enter Try.func86, Try.ntmps86
    go_wp2_with fail
    go_ret
    exact ⟨rfl, (Below.refl _ _).alloc (Nat.le_refl _) _⟩
  · rw [if_neg h3] at hce
    have hk4 : k = 0 ∨ k = 1 ∨ k = 2 ∨ k = 3 := by omega
    clear h3 hb
    generalize emp s = em at *
    have hE' : s.toList.isEmpty = em := hE.symm
    clear hE
    rcases hk4 with rfl | rfl | rfl | rfl
    · cases em with
      | false =>
        clear hZ
        have hres : cellErr c = 1 := by rw [hce]; simp
        rw [hres]
        clear hce hres
        go_enter Try.func86, Try.ntmps86
        go_wp2_with fail
        go_ret
        exact ⟨rfl, (Below.refl _ _).alloc (Nat.le_refl _) _⟩
      | true =>
        have hz0 : s.size = 0 := of_decide_eq_true hZ.symm
        have tl : decide ((64 : Int) < (s.size : Int)) = false := decide_eq_false (by omega)
        have hl : ¬ 64 < s.size := by omega
        clear hZ hz0
        by_cases hn0 : n = 0
        · subst hn0
          have hres : cellErr c = 0 := by rw [hce]; simp [hl]
          rw [hres]
          clear hce hres
          go_enter Try.func86, Try.ntmps86
          go_wp2_with fail
          go_ret
          exact ⟨rfl, (Below.refl _ _).alloc (Nat.le_refl _) _⟩
        · have tn : (n == 0) = false := by rw [beq_eq_false_iff_ne]; exact hn0
          have tn' : (n != 0) = true := by rw [bne_iff_ne]; exact hn0
          have hres : cellErr c = 1 := by rw [hce]; simp [hn0]
          rw [hres]
          clear hce hres
          go_enter Try.func86, Try.ntmps86
          go_wp2_with fail
          go_ret
          exact ⟨rfl, (Below.refl _ _).alloc (Nat.le_refl _) _⟩
    · cases em with
      | false =>
        clear hZ
        have hres : cellErr c = 1 := by rw [hce]; simp
        rw [hres]
        clear hce hres
        go_enter Try.func86, Try.ntmps86
        go_wp2_with fail
        go_ret
        exact ⟨rfl, (Below.refl _ _).alloc (Nat.le_refl _) _⟩
      | true =>
        have hz0 : s.size = 0 := of_decide_eq_true hZ.symm
        have tl : decide ((64 : Int) < (s.size : Int)) = false := decide_eq_false (by omega)
        have hl : ¬ 64 < s.size := by omega
        clear hZ hz0
        have hres : cellErr c = 0 := by rw [hce]; simp [hl]
        rw [hres]
        clear hce hres
        go_enter Try.func86, Try.ntmps86
        go_wp2_with fail
        go_ret
        exact ⟨rfl, (Below.refl _ _).alloc (Nat.le_refl _) _⟩
    · cases em with
      | false =>
        clear hZ
        have hres : cellErr c = 1 := by rw [hce]; simp
        rw [hres]
        clear hce hres
        go_enter Try.func86, Try.ntmps86
        go_wp2_with fail
        go_ret
        exact ⟨rfl, (Below.refl _ _).alloc (Nat.le_refl _) _⟩
      | true =>
        have hz0 : s.size = 0 := of_decide_eq_true hZ.symm
        have tl : decide ((64 : Int) < (s.size : Int)) = false := decide_eq_false (by omega)
        have hl : ¬ 64 < s.size := by omega
        clear hZ hz0
        by_cases hn0 : n = 0
        · subst hn0
          have hres : cellErr c = 0 := by rw [hce]; simp [hl]
          rw [hres]
          clear hce hres
          go_enter Try.func86, Try.ntmps86
          go_wp2_with fail
          go_ret
          exact ⟨rfl, (Below.refl _ _).alloc (Nat.le_refl _) _⟩
        · have tn : (n == 0) = false := by rw [beq_eq_false_iff_ne]; exact hn0
          have tn' : (n != 0) = true := by rw [bne_iff_ne]; exact hn0
          by_cases hn1 : n = 1
          · subst hn1
            have hres : cellErr c = 0 := by rw [hce]; simp [hl]
            rw [hres]
            clear hce hres
            go_enter Try.func86, Try.ntmps86
            go_wp2_with fail
            go_ret
            exact ⟨rfl, (Below.refl _ _).alloc (Nat.le_refl _) _⟩
          · have tm : (n == 1) = false := by rw [beq_eq_false_iff_ne]; exact hn1
            have tm' : (n != 1) = true := by rw [bne_iff_ne]; exact hn1
            have hres : cellErr c = 1 := by rw [hce]; simp [hn0, hn1]
            rw [hres]
            clear hce hres
            go_enter Try.func86, Try.ntmps86
            go_wp2_with fail
            go_ret
            exact ⟨rfl, (Below.refl _ _).alloc (Nat.le_refl _) _⟩
    · have hce : cellErr c = if (¬ (3 : Nat) ≠ 3 → False) ∧ False ∨ n ≠ 0 then 1 else if 64 < s.size then 5 else 0 := by rw [hce]; simp
      clear hZ hE'
      by_cases hn0 : n = 0
      · subst hn0
        by_cases hl : 64 < s.size
        · have tl : decide ((64 : Int) < (s.size : Int)) = true := decide_eq_true (by omega)
          have hres : cellErr c = 5 := by rw [hce]; simp [hl]
          rw [hres]
          clear hce hres
          go_enter Try.func86, Try.ntmps86
          go_wp2_with fail
          go_ret
          exact ⟨rfl, (Below.refl _ _).alloc (Nat.le_refl _) _⟩
        · have tl : decide ((64 : Int) < (s.size : Int)) = false := decide_eq_false (by omega)
          have hres : cellErr c = 0 := by rw [hce]; simp [hl]
          rw [hres]
          clear hce hres
          go_enter Try.func86, Try.ntmps86
          go_wp2_with fail
          go_ret
          exact ⟨rfl, (Below.refl _ _).alloc (Nat.le_refl _) _⟩
      · have tn : (n == 0) = false := by rw [beq_eq_false_iff_ne]; exact hn0
        have tn' : (n != 0) = true := by rw [bne_iff_ne]; exact hn0
        have hres : cellErr c = 1 := by rw [hce]; simp [hn0]
        rw [hres]
        clear hce hres
        go_enter Try.func86, Try.ntmps86
        go_wp2_with fail
        go_ret
        exact ⟨rfl, (Below.refl _ _).alloc (Nat.le_refl _) _⟩
end Go.Proofs.Ytlccpchlclpnaaa
