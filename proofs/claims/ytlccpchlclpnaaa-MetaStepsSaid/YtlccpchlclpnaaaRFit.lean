/- THE WALK of the document's Fit, and that it says the same as the program's. No statement of the seat is proved here; no condition. -/
import Derived.Test.YtlccpchlclpnaaaRow
namespace Go.Proofs.Ytlccpchlclpnaaa
open Go.RowKit

def rfAt (l : List Fd) (r : List Cl) (i : Nat) : Nat :=
  if (r.getD i default).kind.toNat = 0 then (if (l.getD i default).need then 82 else 0)
  else if (r.getD i default).kind.toNat ≠ (l.getD i default).kind.toNat then 10
  else if 64 < (r.getD i default).s.size then 5 else 0
def rfErr (l : List Fd) (r : List Cl) : Nat := if r.length ≠ l.length then 1 else firstE (rfAt l r) l.length 0
theorem fixC_s (c : Cl) (h : (fixC c).kind.toNat ≠ 3) : (fixC c).s.size = 0 := by
  by_cases hc : cellErr c = 0
  · have e : fixC c = c := by unfold fixC; rw [if_pos hc]
    rw [e] at h ⊢
    unfold cellErr at hc
    split at hc
    · omega
    · split at hc
      · omega
      · next h1 =>
        have h2 : ¬ (c.kind.toNat ≠ 3 ∧ emp c.s = false) := fun q => h1 (.inl q)
        have h3 : emp c.s = true := by
          cases he : emp c.s with
          | true => rfl
          | false => exact absurd ⟨h, he⟩ h2
        rw [emp_size] at h3
        exact of_decide_eq_true h3
  · have e : fixC c = ⟨0, 0, ⟨#[]⟩⟩ := by unfold fixC; rw [if_neg hc]
    rw [e]; rfl
theorem fit_same_at (l : List Fd) (r : List Cl) (i : Nat) (h : i < r.length) : rfAt l (r.map fixC) i = fitAt l (r.map valOf) i := by
  have e1 : (r.map fixC).getD i default = fixC (r.getD i default) := by simp [List.getD, h]
  have e2 : (r.map valOf).getD i default = valOf (r.getD i default) := by simp [List.getD, h]
  unfold rfAt fitAt
  rw [e1, e2]
  generalize r.getD i default = c
  have hs := fixC_s c
  unfold valOf
  rcases fixC_kind c with hk | hk | hk | hk <;> simp only [hk] at hs ⊢
  · simp
  · simp [kindOf, hs]
  · simp [kindOf, hs]
  · simp [kindOf]
theorem firstE_congr {g g' : Nat → Nat} : ∀ b i, (∀ j, i ≤ j → j < i + b → g j = g' j) → firstE g b i = firstE g' b i := by
  intro b
  induction b with
  | zero => intro i _; rfl
  | succ b ih =>
    intro i h
    unfold firstE
    rw [h i (Nat.le_refl _) (by omega), ih (i + 1) (fun j h1 h2 => h j (by omega) (by omega))]
theorem fit_same (l : List Fd) (r : List Cl) : rfErr l (r.map fixC) = fitErr l (r.map valOf) := by
  unfold rfErr fitErr
  rw [List.length_map, List.length_map]
  split
  · rfl
  · next h =>
    exact firstE_congr _ _ (fun j _ h2 => fit_same_at l r j (by omega))

set_option maxRecDepth 100000 in
set_option maxHeartbeats 2000000 in
theorem refFit (w : World) (id : UInt32) (n c : Nat) (A : Option Addr) (l : List Fd) (hr : Rd w w.heap.size 4 A n c (fdsV l)) (m d : Nat) (B : Option Addr) (r : List Cl) (hv : Rd w w.heap.size 3 B m d (clsV r)) :
    Calls Try.prog 22 #[.agg #[.int .u32 (id.toNat : Int), .slice A n c], .slice B m d] w fun e w' => e = .returned (.int .i64 (rfErr l r : Int)) ∧ Below w.heap.size w w' := by
  obtain rfl := hr.lenF
  obtain rfl := hv.lenC
  have hmax : l.length ≤ 9223372036854775807 := by have h1 := hr.le; have h2 := hr.cap; unfold maxLen at h2; omega
  by_cases h0 : r.length = l.length
  · have e0 : rfErr l r = firstE (rfAt l r) l.length 0 := by unfold rfErr; rw [if_neg (by simpa using h0)]
    rw [e0]
    have t1 : ((r.length : Int) != (l.length : Int)) = false := by rw [h0]; simp
    have H0 := hide h0
    clear e0 h0
    go_enter Try.func22, Try.ntmps22
    go_wp2_with fail
    have x1 := box_new w #[.int .u32 (id.toNat : Int), .slice A l.length c] 25
    generalize hwa : w.alloc (.cells #[.int .u32 (id.toNat : Int), .slice A l.length c] 25) = w1 at *
    obtain ⟨cs, _, zs, hb1⟩ := x1.lift (Below.refl _ _)
    have s1 : w1.cell? ⟨w.heap.size, 1, none⟩ = some (.slice A l.length c) := cs 1 _ rfl
    have hr1 := (hr.below hb1).more hb1.size
    have hv1 := (hv.below hb1).more hb1.size
    obtain ⟨bs, hbs⟩ : ∃ bs, bs = w.heap.size := ⟨_, rfl⟩
    rw [← hbs] at s1 zs ⊢
    have HBS := hide hbs
    clear hwa cs x1 hbs hr hv
    go_loopw [5] (fun iv wr => ∃ k : Nat, k ≤ l.length ∧ iv = .int .i64 (k : Int) ∧ Hid (firstE (rfAt l r) (l.length - k) k = firstE (rfAt l r) l.length 0) ∧ Below w1.heap.size w1 wr) (fun iv _ => l.length - (intOf iv).toNat)
    case atStart => exact ⟨0, Nat.zero_le _, rfl, hide rfl, Below.refl _ _⟩
    case round =>
      obtain ⟨k, hk, rfl, hf, hbr⟩ := hrel
      have hlr := H0.out
      by_cases hlt : k < l.length
      · have hlt2 : k < r.length := by omega
        have sb := (hbr.cell (p := ⟨bs, 1, none⟩) zs).trans s1
        have zbr : bs < wr.heap.size := Nat.lt_of_lt_of_le zs hbr.size
        have znr : bs ≠ wr.heap.size := Nat.ne_of_lt zbr
        obtain ⟨b, off, rfl, hb, f0, f1, f2, f3⟩ := (hr1.below hbr).fd hlt
        obtain ⟨rb, roff, rfl, hrb, v0, v1, v2⟩ := (hv1.below hbr).cl hlt2
        have hrf : rfAt l r k = if (r.getD k default).kind.toNat = 0 then (if (l.getD k default).need then 82 else 0) else if (r.getD k default).kind.toNat ≠ (l.getD k default).kind.toNat then 10 else if 64 < (r.getD k default).s.size then 5 else 0 := rfl
        have hbw : b < wr.heap.size := Nat.lt_of_lt_of_le hb hbr.size
        have hbn : b ≠ wr.heap.size := Nat.ne_of_lt hbw
        have hckb : (r.getD k default).kind.toNat < 256 := UInt8.toNat_lt _
        have hfkb : (l.getD k default).kind.toNat < 256 := UInt8.toNat_lt _
        generalize (l.getD k default).id.toNat = fi at *
        generalize (l.getD k default).name = fnm at *
        generalize (l.getD k default).kind.toNat = fk at *
        generalize (l.getD k default).need = fnd at *
        generalize (r.getD k default).kind.toNat = ck at *
        generalize (r.getD k default).n = cn at *
        generalize (r.getD k default).s = cst at *
        have HRF := hide hrf
        clear hrf f0 f1 hlr
        by_cases hc0 : ck = 0
        · subst hc0
          cases fnd with
          | true =>
            have he := hide (hf.out.symm.trans (firstE_at hlt (show rfAt l r k = 82 by rw [HRF.out]; rfl) (by decide)))
            go_wp2_with fail
            go_ret
            exact ⟨by rw [he.out]; rfl, below_call hb1 (by rw [← HBS.out]; exact Nat.le_of_lt zs) (hbr.alloc hbr.size _)⟩
          | false =>
            have he := hide ((firstE_next hlt (show rfAt l r k = 0 by rw [HRF.out]; rfl)).symm.trans hf.out)
            go_wp2_with fail
            go_roundw
            case rel => exact ⟨k + 1, hlt, by go_num, he, hbr.alloc hbr.size _⟩
            case measure => exact meas_sub k _ hlt
        · have t0 : ((ck : Int) == 0) = false := by rw [beq_eq_false_iff_ne]; omega
          clear f3
          by_cases hck : ck = fk
          · have t2 : ((ck : Int) != (fk : Int)) = false := by rw [hck]; simp
            by_cases hlong : 64 < cst.size
            · have t3 : decide ((64 : Int) < (cst.size : Int)) = true := decide_eq_true (by omega)
              have he := hide (hf.out.symm.trans (firstE_at hlt (show rfAt l r k = 5 by rw [HRF.out, if_neg hc0, if_neg (by simpa using hck), if_pos hlong]) (by decide)))
              clear hc0 hck hlong
              go_wp2_with fail
              go_quiet (fail)
              go_wp2_with fail
              go_ret
              exact ⟨by rw [he.out]; rfl, below_call hb1 (by rw [← HBS.out]; exact Nat.le_of_lt zs) (below_dN (hbr.alloc hbr.size _) _)⟩
            · have t3 : decide ((64 : Int) < (cst.size : Int)) = false := decide_eq_false (by omega)
              have he := hide ((firstE_next hlt (show rfAt l r k = 0 by rw [HRF.out, if_neg hc0, if_neg (by simpa using hck), if_neg hlong])).symm.trans hf.out)
              clear hc0 hck hlong
              go_wp2_with fail
              go_quiet (fail)
              go_wp2_with fail
              go_roundw
              case rel => exact ⟨k + 1, hlt, by go_num, he, below_dN (hbr.alloc hbr.size _) _⟩
              case measure => exact meas_sub k _ hlt
          · have t2 : ((ck : Int) != (fk : Int)) = true := by rw [bne_iff_ne]; omega
            have he := hide (hf.out.symm.trans (firstE_at hlt (show rfAt l r k = 10 by rw [HRF.out, if_neg hc0, if_pos hck]) (by decide)))
            clear hc0 hck
            go_wp2_with fail
            go_quiet (fail)
            go_wp2_with fail
            go_ret
            exact ⟨by rw [he.out]; rfl, below_call hb1 (by rw [← HBS.out]; exact Nat.le_of_lt zs) (below_dN (hbr.alloc hbr.size _) _)⟩
      · obtain rfl : k = l.length := by omega
        have he := hf.out
        rw [Nat.sub_self] at he
        have HE := hide he.symm
        have hnlt : ¬ l.length < r.length := by omega
        clear he hlr
        go_wp2_with fail
        go_ret
        exact ⟨by rw [HE.out]; rfl, below_call hb1 (by rw [← HBS.out]; exact Nat.le_of_lt zs) hbr⟩
  · have e0 : rfErr l r = 1 := by unfold rfErr; rw [if_pos h0]
    rw [e0]
    have t1 : ((r.length : Int) != (l.length : Int)) = true := by rw [bne_iff_ne]; omega
    clear h0 e0
    go_enter Try.func22, Try.ntmps22
    go_wp2_with fail
    go_ret
    exact ⟨rfl, (Below.refl _ _).alloc (Nat.le_refl _) _⟩
end Go.Proofs.Ytlccpchlclpnaaa
