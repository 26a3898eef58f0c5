/- WHAT SERVES THE TABLES' STATEMENTS, part 1: MetaL, MetaP, MetaF, MetaQ, MetaT, MetaD, MetaR, MetaU, MetaB, MetaX, MetaY, MetaRR, MetaRP, MetaSP, MetaSW, Frame, FrameS, VarI, VarR, PackP, Pack, Crc, CrcW, CrcS, CrcR, CrcL, CrcP, Unp. No statement of the seat is proved here. -/
import Derived.Test.YtbcnekaagkdmeaaDoorE0
import Derived.Lib.SliceRun
import Derived.Deep.RegionLaw
import Derived.Deep.CutRange
import Derived.Laws.IdiomRangeMap
import Derived.ProofKit
import Derived.OpenShut
import Derived.ShutString
import Derived.ChangeOld
import Derived.SizedLaws
import Derived.Below
import Derived.Deep.Slices
import Derived.Deep.Fields
import Derived.ChangeSame
import Derived.Lib.SmallJoins
import Derived.Lib.AppendStr
import Init.Data.BitVec.Lemmas
namespace Go.Proofs.YtbcnekaagkdmeaaDoor

section
open Go.RowKit

def u64sV (l : List UInt64) : List Value := l.map fun x => .int .u64 (x.toNat : Int)
section
variable {w : World} {B n c : Nat} {A : Option Addr}
theorem Rd.u64 {l : List UInt64} (h : Rd w B 1 A n c (u64sV l)) {k : Nat} (hk : k < l.length) : ∃ b off, A = some ⟨b, off, none⟩ ∧ b < B ∧ w.cell? ⟨b, off + k, none⟩ = some (.int .u64 ((l.getD k default).toNat : Int)) := by
  obtain ⟨b, off, e, hb, hc⟩ := h.cellAt (k := k) (by simp [u64sV]; exact hk)
  refine ⟨b, off, e, hb, hc.trans ?_⟩
  simp [u64sV, List.getD, hk]
end
end

section
open Go.RowKit

def okP (b : Nat) : Bool := decide (97 ≤ b ∧ b ≤ 122 ∨ 48 ≤ b ∧ b ≤ 57 ∨ b = 47 ∨ b = 45)
def pathAt (s : ByteArray) (p : Nat) : Bool := okP (sgn s p)
def pathOk (s : ByteArray) : Bool := decide (1 ≤ s.size) && decide (s.size ≤ 24) && allFrom s (pathAt s) s.size 0
theorem decodeN_high (n b0 b1 b2 b3 : Nat) (h : 128 ≤ b0) : 128 ≤ (Lib.decodeN n b0 b1 b2 b3).1 := by
  unfold Lib.decodeN
  rw [if_neg (by omega)]
  repeat' split
  all_goals simp only []
  all_goals omega
theorem okP_high {b : Nat} (h : 128 ≤ b) : okP b = false := by unfold okP; exact decide_eq_false (by omega)
theorem pathAt_byte (s : ByteArray) (p : Nat) : pathAt s p = okP (s.get! p).toNat ∧ (pathAt s p = true → wid s p = 1) := by
  unfold pathAt sgn wid
  rw [Lib.decode_at]
  by_cases h : (s.get! p).toNat < 128
  · rw [decodeN_low _ _ _ _ _ h]
    exact ⟨rfl, fun _ => rfl⟩
  · have h1 := okP_high (decodeN_high (s.size - p) (s.get! p).toNat (s.get! (p + 1)).toNat (s.get! (p + 2)).toNat (s.get! (p + 3)).toNat (by omega))
    rw [h1, okP_high (show 128 ≤ (s.get! p).toNat by omega)]
    exact ⟨rfl, fun q => by cases q⟩
theorem path_all (s : ByteArray) : ∀ b p, s.size ≤ p + b → (∀ j, p ≤ j → j < s.size → okP (s.get! j).toNat = true) → allFrom s (pathAt s) b p = true := by
  intro b
  induction b with
  | zero => intro p h _; exact allFrom_end _ _ _ _ (by omega)
  | succ b ih =>
    intro p h hall
    by_cases hp : p < s.size
    · obtain ⟨h1, h2⟩ := pathAt_byte s p
      have h3 : pathAt s p = true := by rw [h1]; exact hall p (Nat.le_refl _) hp
      unfold allFrom
      rw [if_pos hp, h3, Bool.true_and, h2 h3]
      exact ih _ (by omega) fun j hj hj2 => hall j (by omega) hj2
    · exact allFrom_end _ _ _ _ hp
theorem path_bad (s : ByteArray) (j : Nat) (hj : j < s.size) (hb : okP (s.get! j).toNat = false) : ∀ b p, p ≤ j → s.size ≤ p + b → allFrom s (pathAt s) b p = false := by
  intro b
  induction b with
  | zero => intro p h1 h2; omega
  | succ b ih =>
    intro p h1 h2
    obtain ⟨q1, q2⟩ := pathAt_byte s p
    cases h3 : pathAt s p with
    | false => exact allFrom_no _ _ _ _ (by omega) h2 h3
    | true =>
      unfold allFrom
      rw [if_pos (by omega), h3, Bool.true_and, q2 h3]
      have : p ≠ j := by rintro rfl; rw [q1] at h3; rw [h3] at hb; cases hb
      exact ih _ (by omega) (by omega)
theorem pathOk_long {s : ByteArray} (h : 24 < s.size) : pathOk s = false := by unfold pathOk; rw [decide_eq_false (show ¬ s.size ≤ 24 by omega)]; simp
theorem get_at (t : ByteArray) : ∀ k (h : k < t.size), t[k]'h = t.get! k := fun k h => by
  cases t with
  | mk d => exact (getElem!_pos d k h).symm
theorem pathOk_bad {s : ByteArray} {k : Nat} (hk : k < s.size) (hb : okP (s.get! k).toNat = false) : pathOk s = false := by
  unfold pathOk
  rw [path_bad s k hk hb s.size 0 (Nat.zero_le _) (by omega), Bool.and_false]
theorem pathOk_good {s : ByteArray} {k : Nat} (h : s.size ≤ k ∨ 30 ≤ k) (hf : ∀ j, j < k → okP (s.get! j).toNat = true) : pathOk s = (decide (1 ≤ s.size) && decide (s.size ≤ 24)) := by
  unfold pathOk
  by_cases h24 : s.size ≤ 24
  · rw [path_all s s.size 0 (by omega) fun j _ hj => hf j (by omega), Bool.and_true]
  · rw [decide_eq_false h24]; simp
set_option maxRecDepth 100000 in
set_option maxHeartbeats 1000000 in
theorem refNamed12 (w : World) (s : ByteArray) (hs : s.size ≤ 9223372036854775807) : Calls Tryd.prog 29 #[.string s] w fun e w' => e = .returned (.bool (pathOk s)) ∧ w = w' := by
  go_enter Tryd.func29, Tryd.ntmps29
  go_wp2
  go_loop [3] (fun iv => ∃ k : Nat, k ≤ 30 ∧ iv = .int .i64 (k : Int) ∧ Hid (∀ j, j < k → okP (s.get! j).toNat = true)) (fun iv => 30 - (intOf iv).toNat)
  case atStart => exact ⟨0, Nat.zero_le _, rfl, hide (fun j h => by omega)⟩
  case round =>
    obtain ⟨k, hk, rfl, hf⟩ := hrel
    by_cases hlt : k < s.size ∧ k < 30
    · obtain ⟨h1, h2⟩ := hlt
      have HB : Hid (okP (s.get! k).toNat = false → pathOk s = false) := hide (fun h => pathOk_bad h1 h)
      obtain ⟨x, hx⟩ : ∃ x, x = (s.get! k).toNat := ⟨_, rfl⟩
      have hx8 : x < 256 := by rw [hx]; exact (s.get! k).toNat_lt
      have hy : (s[k]'h1).toNat = x := by rw [hx, get_at]
      have HX := hide hx
      clear hx
      rcases (show (x < 45) ∨ (x = 45) ∨ (x = 46) ∨ (x = 47) ∨ (48 ≤ x ∧ x ≤ 57) ∨ (58 ≤ x ∧ x ≤ 96) ∨ (97 ≤ x ∧ x ≤ 122) ∨ (123 ≤ x) by omega) with g | g | g | g | g | g | g | g
      · have a1 : decide ((97 : Int) ≤ (x : Int)) = false := decide_eq_false (by omega)
        have a2 : decide ((x : Int) ≤ 122) = true := decide_eq_true (by omega)
        have a3 : decide ((48 : Int) ≤ (x : Int)) = false := decide_eq_false (by omega)
        have a4 : decide ((x : Int) ≤ 57) = true := decide_eq_true (by omega)
        have a5 : ((x : Int) == 47) = false := by rw [beq_eq_false_iff_ne]; omega
        have a6 : ((x : Int) == 45) = false := by rw [beq_eq_false_iff_ne]; omega
        have HO : Hid (okP (s.get! k).toNat = false) := hide (by rw [← HX.out]; unfold okP; exact decide_eq_false (by omega))
        have HG := hide g
        clear g
        go_wp2
        go_ret
        exact ⟨by rw [HB.out HO.out]; rfl, rfl⟩
      · have a1 : decide ((97 : Int) ≤ (x : Int)) = false := decide_eq_false (by omega)
        have a2 : decide ((x : Int) ≤ 122) = true := decide_eq_true (by omega)
        have a3 : decide ((48 : Int) ≤ (x : Int)) = false := decide_eq_false (by omega)
        have a4 : decide ((x : Int) ≤ 57) = true := decide_eq_true (by omega)
        have a5 : ((x : Int) == 47) = false := by rw [beq_eq_false_iff_ne]; omega
        have a6 : ((x : Int) == 45) = true := by rw [beq_iff_eq]; omega
        have HO : Hid (okP (s.get! k).toNat = true) := hide (by rw [← HX.out]; unfold okP; exact decide_eq_true (by omega))
        have HG := hide g
        clear g
        go_wp2
        go_round
        case rel =>
          refine ⟨k + 1, by omega, by go_num, hide (fun j hj => ?_)⟩
          by_cases e : j = k
          · rw [e]; exact HO.out
          · exact hf.out j (by omega)
        case measure => simp [intOf]; omega
      · have a1 : decide ((97 : Int) ≤ (x : Int)) = false := decide_eq_false (by omega)
        have a2 : decide ((x : Int) ≤ 122) = true := decide_eq_true (by omega)
        have a3 : decide ((48 : Int) ≤ (x : Int)) = false := decide_eq_false (by omega)
        have a4 : decide ((x : Int) ≤ 57) = true := decide_eq_true (by omega)
        have a5 : ((x : Int) == 47) = false := by rw [beq_eq_false_iff_ne]; omega
        have a6 : ((x : Int) == 45) = false := by rw [beq_eq_false_iff_ne]; omega
        have HO : Hid (okP (s.get! k).toNat = false) := hide (by rw [← HX.out]; unfold okP; exact decide_eq_false (by omega))
        have HG := hide g
        clear g
        go_wp2
        go_ret
        exact ⟨by rw [HB.out HO.out]; rfl, rfl⟩
      · have a1 : decide ((97 : Int) ≤ (x : Int)) = false := decide_eq_false (by omega)
        have a2 : decide ((x : Int) ≤ 122) = true := decide_eq_true (by omega)
        have a3 : decide ((48 : Int) ≤ (x : Int)) = false := decide_eq_false (by omega)
        have a4 : decide ((x : Int) ≤ 57) = true := decide_eq_true (by omega)
        have a5 : ((x : Int) == 47) = true := by rw [beq_iff_eq]; omega
        have a6 : ((x : Int) == 45) = false := by rw [beq_eq_false_iff_ne]; omega
        have HO : Hid (okP (s.get! k).toNat = true) := hide (by rw [← HX.out]; unfold okP; exact decide_eq_true (by omega))
        have HG := hide g
        clear g
        go_wp2
        go_round
        case rel =>
          refine ⟨k + 1, by omega, by go_num, hide (fun j hj => ?_)⟩
          by_cases e : j = k
          · rw [e]; exact HO.out
          · exact hf.out j (by omega)
        case measure => simp [intOf]; omega
      · have a1 : decide ((97 : Int) ≤ (x : Int)) = false := decide_eq_false (by omega)
        have a2 : decide ((x : Int) ≤ 122) = true := decide_eq_true (by omega)
        have a3 : decide ((48 : Int) ≤ (x : Int)) = true := decide_eq_true (by omega)
        have a4 : decide ((x : Int) ≤ 57) = true := decide_eq_true (by omega)
        have a5 : ((x : Int) == 47) = false := by rw [beq_eq_false_iff_ne]; omega
        have a6 : ((x : Int) == 45) = false := by rw [beq_eq_false_iff_ne]; omega
        have HO : Hid (okP (s.get! k).toNat = true) := hide (by rw [← HX.out]; unfold okP; exact decide_eq_true (by omega))
        have HG := hide g
        clear g
        go_wp2
        go_round
        case rel =>
          refine ⟨k + 1, by omega, by go_num, hide (fun j hj => ?_)⟩
          by_cases e : j = k
          · rw [e]; exact HO.out
          · exact hf.out j (by omega)
        case measure => simp [intOf]; omega
      · have a1 : decide ((97 : Int) ≤ (x : Int)) = false := decide_eq_false (by omega)
        have a2 : decide ((x : Int) ≤ 122) = true := decide_eq_true (by omega)
        have a3 : decide ((48 : Int) ≤ (x : Int)) = true := decide_eq_true (by omega)
        have a4 : decide ((x : Int) ≤ 57) = false := decide_eq_false (by omega)
        have a5 : ((x : Int) == 47) = false := by rw [beq_eq_false_iff_ne]; omega
        have a6 : ((x : Int) == 45) = false := by rw [beq_eq_false_iff_ne]; omega
        have HO : Hid (okP (s.get! k).toNat = false) := hide (by rw [← HX.out]; unfold okP; exact decide_eq_false (by omega))
        have HG := hide g
        clear g
        go_wp2
        go_ret
        exact ⟨by rw [HB.out HO.out]; rfl, rfl⟩
      · have a1 : decide ((97 : Int) ≤ (x : Int)) = true := decide_eq_true (by omega)
        have a2 : decide ((x : Int) ≤ 122) = true := decide_eq_true (by omega)
        have a3 : decide ((48 : Int) ≤ (x : Int)) = true := decide_eq_true (by omega)
        have a4 : decide ((x : Int) ≤ 57) = false := decide_eq_false (by omega)
        have a5 : ((x : Int) == 47) = false := by rw [beq_eq_false_iff_ne]; omega
        have a6 : ((x : Int) == 45) = false := by rw [beq_eq_false_iff_ne]; omega
        have HO : Hid (okP (s.get! k).toNat = true) := hide (by rw [← HX.out]; unfold okP; exact decide_eq_true (by omega))
        have HG := hide g
        clear g
        go_wp2
        go_round
        case rel =>
          refine ⟨k + 1, by omega, by go_num, hide (fun j hj => ?_)⟩
          by_cases e : j = k
          · rw [e]; exact HO.out
          · exact hf.out j (by omega)
        case measure => simp [intOf]; omega
      · have a1 : decide ((97 : Int) ≤ (x : Int)) = true := decide_eq_true (by omega)
        have a2 : decide ((x : Int) ≤ 122) = false := decide_eq_false (by omega)
        have a3 : decide ((48 : Int) ≤ (x : Int)) = true := decide_eq_true (by omega)
        have a4 : decide ((x : Int) ≤ 57) = false := decide_eq_false (by omega)
        have a5 : ((x : Int) == 47) = false := by rw [beq_eq_false_iff_ne]; omega
        have a6 : ((x : Int) == 45) = false := by rw [beq_eq_false_iff_ne]; omega
        have HO : Hid (okP (s.get! k).toNat = false) := hide (by rw [← HX.out]; unfold okP; exact decide_eq_false (by omega))
        have HG := hide g
        clear g
        go_wp2
        go_ret
        exact ⟨by rw [HB.out HO.out]; rfl, rfl⟩
    · have HI := hide (pathOk_good (s := s) (k := k) (by omega) hf.out)
      rcases Nat.lt_or_ge k s.size with h1 | h1
      · have h2 : ¬ k < 30 := by omega
        clear hlt
        rcases Nat.lt_or_ge 24 s.size with h3 | h3
        · have t1 : decide ((1 : Int) ≤ (s.size : Int)) = true := decide_eq_true (by omega)
          have t2 : decide ((s.size : Int) ≤ 24) = false := decide_eq_false (by omega)
          have HR : Hid (pathOk s = false) := hide (pathOk_long h3)
          clear h3
          go_wp2
          go_ret
          exact ⟨by rw [HR.out]; rfl, rfl⟩
        · exact absurd h1 (by omega)
      · have h2 : ¬ k < s.size := by omega
        clear hlt h1
        by_cases h4 : 1 ≤ s.size
        · have t1 : decide ((1 : Int) ≤ (s.size : Int)) = true := decide_eq_true (by omega)
          by_cases h3 : s.size ≤ 24
          · have t2 : decide ((s.size : Int) ≤ 24) = true := decide_eq_true (by omega)
            have HR : Hid (pathOk s = true) := hide (by rw [HI.out, decide_eq_true h4, decide_eq_true h3]; rfl)
            clear h3 h4
            go_wp2
            go_ret
            exact ⟨by rw [HR.out]; rfl, rfl⟩
          · have t2 : decide ((s.size : Int) ≤ 24) = false := decide_eq_false (by omega)
            have HR : Hid (pathOk s = false) := hide (by rw [HI.out, decide_eq_false h3, Bool.and_false])
            clear h3 h4
            go_wp2
            go_ret
            exact ⟨by rw [HR.out]; rfl, rfl⟩
        · have t1 : decide ((1 : Int) ≤ (s.size : Int)) = false := decide_eq_false (by omega)
          have HR : Hid (pathOk s = false) := hide (by rw [HI.out, decide_eq_false h4]; rfl)
          clear h4
          go_wp2
          go_ret
          exact ⟨by rw [HR.out]; rfl, rfl⟩
end

section
open Go.RowKit

/-! ### a snapshot as a value of its own -/
/-- seven cells laid into a box -/
def set7 (w : World) (b : Nat) (v0 v1 v2 v3 v4 v5 v6 : Value) : World := ((((((w.setCell ⟨b, 0, none⟩ v0).setCell ⟨b, 1, none⟩ v1).setCell ⟨b, 2, none⟩ v2).setCell ⟨b, 3, none⟩ v3).setCell ⟨b, 4, none⟩ v4).setCell ⟨b, 5, none⟩ v5).setCell ⟨b, 6, none⟩ v6
section
variable {w : World} {b : Nat} {v0 v1 v2 v3 v4 v5 v6 : Value}
theorem BoxN.set7 {u0 u1 u2 u3 u4 u5 u6 : Value} (h : BoxN w b [u0, u1, u2, u3, u4, u5, u6]) : BoxN (set7 w b v0 v1 v2 v3 v4 v5 v6) b [v0, v1, v2, v3, v4, v5, v6] :=
  ((((((h.set (j := 0) v0 rfl).set (j := 1) v1 rfl).set (j := 2) v2 rfl).set (j := 3) v3 rfl).set (j := 4) v4 rfl).set (j := 5) v5 rfl).set (j := 6) v6 rfl
theorem own_set7 {base : Nat} {e : TypeId} {sz n : Nat} {v : Value} {xs : List Value} (h : w.ownsRow base e sz v n xs) (hb : b < base) : (set7 w b v0 v1 v2 v3 v4 v5 v6).ownsRow base e sz v n xs := by
  unfold Go.Proofs.YtbcnekaagkdmeaaDoor.set7
  exact ownsRow_setCell_below (ownsRow_setCell_below (ownsRow_setCell_below (ownsRow_setCell_below (ownsRow_setCell_below (ownsRow_setCell_below (ownsRow_setCell_below h (a := ⟨b, 0, none⟩) hb _) (a := ⟨b, 1, none⟩) hb _) (a := ⟨b, 2, none⟩) hb _) (a := ⟨b, 3, none⟩) hb _) (a := ⟨b, 4, none⟩) hb _) (a := ⟨b, 5, none⟩) hb _) (a := ⟨b, 6, none⟩) hb _
end
end

section
open Go.RowKit

/-- two lists of fields: the same? -/
def fdsEq (l1 l2 : List Fd) : Bool := decide (l1.length = l2.length) && (List.range l1.length).all fun j => fdEq (l1.getD j default) (l2.getD j default)
/-- may they be a snapshot's names? -/
def namesOk (l : List ByteArray) : Bool := decide (l.length ≤ 8) && (List.range l.length).all fun i => pathOk (l.getD i default) && !((l.take i).any fun y => (l.getD i default).toList == y.toList)
end

section
open Go.RowKit

theorem own_grown {w w' : World} {base base2 sz sz2 n n2 : Nat} {e e2 : TypeId} {v v2 : Value} {xs xs2 : List Value} (h : w.ownsRow base e sz v n xs) (ho : w.ownsRow base2 e2 sz2 v2 n2 xs2) (hg : w.grownBy w' v2.ownBlock) (hne : e ≠ e2) : w'.ownsRow base e sz v n xs := by
  refine h.kept hg ?_
  rcases h.2 with ⟨rfl, _⟩ | ⟨g, cap, cur, rfl, _, hc, _⟩
  · exact .inl rfl
  · refine .inr fun q => ?_
    rcases ho.2 with ⟨rfl, _⟩ | ⟨g2, cap2, cur2, rfl, _, hc2, _⟩
    · cases q
    · simp only [Value.ownBlock] at q
      injection q with q
      subst q
      rw [hc] at hc2
      injection hc2 with hc2
      injection hc2 with _ q2 _
      exact hne q2
theorem rd_own {w : World} {B sz n c : Nat} {e : TypeId} {A : Option Addr} {xs : List Value} (h : w.ownsRow B e sz (.slice A n c) n xs) : Rd w w.heap.size sz A n c xs := by
  obtain ⟨A', c', q, hr⟩ := Rd.of_own h
  injection q with q1 q2 q3
  subst q1 q3
  exact hr
section
variable {w w' : World} {B sc nc : Nat} {sA nA : Option Addr} {ss : List Sl} {ns : List Nl}
end
/-! ### words for regions -/
/-! ### a table as a value -/
def set3b (w : World) (b : Nat) (v0 v1 v2 : Value) : World := ((w.setCell ⟨b, 0, none⟩ v0).setCell ⟨b, 1, none⟩ v1).setCell ⟨b, 2, none⟩ v2
section
variable {w : World} {b : Nat} {v0 v1 v2 : Value}
theorem BoxN.set3b {u0 u1 u2 : Value} (h : BoxN w b [u0, u1, u2]) : BoxN (set3b w b v0 v1 v2) b [v0, v1, v2] := ((h.set (j := 0) v0 rfl).set (j := 1) v1 rfl).set (j := 2) v2 rfl
theorem below_set3b {B : Nat} {w0 : World} (h : Below B w0 w) (hb : B ≤ b) : Below B w0 (set3b w b v0 v1 v2) := ((h.setCell (p := ⟨b, 0, none⟩) hb _).setCell (p := ⟨b, 1, none⟩) hb _).setCell (p := ⟨b, 2, none⟩) hb _
end
def plS (s : Sl) : UInt32 × List Fd := (s.id, s.fs)
def plN (s : Nl) : Sn := s.p
end

section
open Go.RowKit

section
variable {w w' : World} {B sz g n c : Nat} {e : TypeId} {xs : List Value}
theorem own_blk (h : w.ownsRow B e sz (.slice (some ⟨g, 0, none⟩) n c) n xs) : ∃ cur, w.heap[g]? = some (.cells cur e (0, 0)) ∧ B ≤ g ∧ cur.size = c * sz ∧ n ≤ c ∧ c ≤ maxLen ∧ cur.toList.take (n * sz) = xs ∧ xs.length = n * sz := by
  obtain ⟨hl, h2⟩ := h
  rcases h2 with ⟨q, _⟩ | ⟨g', cap, cur, q, hb, hc, hn, hm, hs, ht⟩
  · cases q
  · injection q with q1 q2 q3
    injection q1 with q1
    injection q1 with q1
    subst q1 q3
    exact ⟨cur, hc, hb, hs, hn, hm, ht, hl⟩
theorem own_set1 (h : w.ownsRow B e sz (.slice (some ⟨g, 0, none⟩) n c) n xs) (k : Nat) (u : Value) : (w.setCell ⟨g, k, none⟩ u).ownsRow B e sz (.slice (some ⟨g, 0, none⟩) n c) n (xs.set k u) := by
  obtain ⟨cur, hc, hb, hs, hn, hm, ht, hl⟩ := own_blk h
  refine ⟨by simp [hl], .inr ⟨g, c, cur.setIfInBounds k u, rfl, hb, ?_, hn, hm, by simpa using hs, ?_⟩⟩
  · simp [World.setCell, Array.getElem?_modify, hc]
  · rw [Array.toList_setIfInBounds, List.take_set, ht]
theorem own_free (h : w.ownsRow B e sz (.slice (some ⟨g, 0, none⟩) n c) n xs) (k : Nat) : w.frozen? ⟨g, k, none⟩ = false := by
  obtain ⟨cur, hc, _⟩ := own_blk h
  simp [World.frozen?, hc]
theorem own_lt (h : w.ownsRow B e sz (.slice (some ⟨g, 0, none⟩) n c) n xs) : B ≤ g ∧ g < w.heap.size := by
  obtain ⟨cur, hc, hb, _⟩ := own_blk h
  exact ⟨hb, (Array.getElem?_eq_some_iff.1 hc).1⟩
end
end

section
abbrev Ps := UInt32 × List Fd
def ps0 : Ps := (0, [])
def wasP (ss : List Ps) (i : Nat) : Ps := if i = 0 then ps0 else ss.getD (i - 1) ps0
def sOk (ss : List Ps) (i : Nat) : Bool :=
  decide (check (ss.getD i ps0).1 (ss.getD i ps0).2 = 0) && (decide ((wasP ss i).1.toNat < (ss.getD i ps0).1.toNat) && (decide ((wasP ss i).2.length ≤ (ss.getD i ps0).2.length) && fdsEq ((ss.getD i ps0).2.take (wasP ss i).2.length) (wasP ss i).2))
def wasN (ns : List Sn) (i : Nat) : Sn := if i = 0 then default else ns.getD (i - 1) default
def hasSch (ss : List Ps) (id : UInt32) : Bool := ss.any fun s => (s.1.toNat : Int) == (id.toNat : Int)
def nOk (ss : List Ps) (ns : List Sn) (i : Nat) : Bool :=
  decide ((wasN ns i).id.toNat < (ns.getD i default).id.toNat) && (decide ((ns.getD i default).id.toNat ≤ 1073741824) && (decide ((ns.getD i default).par.toNat < (ns.getD i default).id.toNat) &&
  (decide ((ns.getD i default).seq.toNat ≤ 1073741824 ∧ (ns.getD i default).off.toNat ≤ 1073741824 ∧ (ns.getD i default).tim.toNat ≤ 1073741824) &&
  (decide ((wasN ns i).seq.toNat ≤ (ns.getD i default).seq.toNat) && (decide ((wasN ns i).off.toNat ≤ (ns.getD i default).off.toNat) && (decide ((wasN ns i).tim.toNat ≤ (ns.getD i default).tim.toNat) && (decide ((wasN ns i).sch.toNat ≤ (ns.getD i default).sch.toNat) &&
  (namesOk (ns.getD i default).ms && hasSch ss (ns.getD i default).sch))))))))
def rightP (ss : List Ps) (ns : List Sn) (cur : Nat) : Bool :=
  decide (1 ≤ ss.length ∧ ss.length ≤ 16 ∧ ns.length ≤ 32) && ((List.range ss.length).all (sOk ss) && ((List.range ns.length).all (nOk ss ns) && decide (cur = (wasN ns ns.length).id.toNat)))
theorem plS_get (ss : List Sl) (i : Nat) : (ss.map plS).getD i ps0 = plS (ss.getD i default) := by
  simp [List.getD]
  cases ss[i]? <;> rfl
theorem plN_get (ns : List Nl) (i : Nat) : (ns.map plN).getD i default = plN (ns.getD i default) := by
  simp [List.getD]
  cases ns[i]? <;> rfl
section
variable {ss : List Ps} {ns : List Sn} {i : Nat} {s was : Ps}
end
end

section
open Go.RowKit

/-- a box whose block's type is known -/
structure BoxT (w : World) (b : Nat) (cs : List Value) (t : TypeId) : Prop where
  bx : BoxN w b cs
  ty : ∃ arr, w.heap[b]? = some (.cells arr t (0, 0))
section
variable {w w' : World} {b : Nat} {cs : List Value} {t : TypeId}
theorem boxT_new (w : World) (cs : Array Value) (t : TypeId) : BoxT (w.alloc (.cells cs t)) w.heap.size cs.toList t := ⟨boxN_new w cs t, cs, heap_alloc_new w _⟩
theorem BoxT.keep (h : BoxT w b cs t) (hb : Below w.heap.size w w') : BoxT w' b cs t := by
  obtain ⟨arr, ha⟩ := h.ty
  exact ⟨h.bx.keep hb h.bx.z, arr, (hb.block b h.bx.z).trans ha⟩
theorem BoxT.grown (h : BoxT w b cs t) {base sz n : Nat} {e : TypeId} {v : Value} {xs : List Value} (ho : w.ownsRow base e sz v n xs) (hg : w.grownBy w' v.ownBlock) (hne : e ≠ t) : BoxT w' b cs t := by
  obtain ⟨arr, ha⟩ := h.ty
  have hbk : w'.heap[b]? = w.heap[b]? := by
    refine hg.block b h.bx.z ?_
    intro q
    rcases ho.2 with ⟨rfl, _⟩ | ⟨g, cap, cur, rfl, _, hgc, _⟩
    · cases q
    · simp only [Value.ownBlock] at q
      injection q with q
      subst q
      rw [ha] at hgc
      injection hgc with hgc
      injection hgc with _ q2 _
      exact hne q2.symm
  exact ⟨⟨fun j v hj => (World.cell?_of_block (w := w) (a := ⟨b, j, none⟩) hbk).trans (h.bx.cell j v hj), fun j hj => (World.frozen?_of_block (w := w) (a := ⟨b, j, none⟩) hbk).trans (h.bx.free j hj), Nat.lt_of_lt_of_le h.bx.z hg.size⟩, arr, hbk.trans ha⟩
theorem BoxT.set (h : BoxT w b cs t) {j : Nat} (x : Value) {u : Value} (hj : cs[j]? = some u) : BoxT (w.setCell ⟨b, j, none⟩ x) b (cs.set j x) t := by
  obtain ⟨arr, ha⟩ := h.ty
  exact ⟨h.bx.set x hj, arr.setIfInBounds j x, by simp [World.setCell, Array.getElem?_modify, ha]⟩
end
end

section
open Go.RowKit

/-- what the boxes hold -/
structure FindB (w : World) (bx b7 b9 b11 : Nat) (sA : Option Addr) (sc : Nat) (ss : List Sl) (nA : Option Addr) (nc : Nat) (ns : List Nl) (cur : Nat) (q1 : Sn) (A1 : Option Addr) (c1 : Nat) (q2 : Sn) (A2 : Option Addr) (c2 : Nat) (sid : UInt32) (sfs : List Fd) (F : Option Addr) (fc : Nat) : Prop where
  X : BoxN w bx #[.slice sA ss.length sc, .slice nA ns.length nc, .int .u64 (cur : Int)].toList
  Y1 : BoxN w b7 #[.int .u64 (q1.id.toNat : Int), .int .u64 (q1.par.toNat : Int), .int .u64 (q1.seq.toNat : Int), .int .u64 (q1.off.toNat : Int), .int .u64 (q1.tim.toNat : Int), .int .u32 (q1.sch.toNat : Int), .slice A1 q1.ms.length c1].toList
  Y2 : BoxN w b9 #[.int .u64 (q2.id.toNat : Int), .int .u64 (q2.par.toNat : Int), .int .u64 (q2.seq.toNat : Int), .int .u64 (q2.off.toNat : Int), .int .u64 (q2.tim.toNat : Int), .int .u32 (q2.sch.toNat : Int), .slice A2 q2.ms.length c2].toList
  Y3 : BoxN w b11 [.int .u32 (sid.toNat : Int), .slice F sfs.length fc]
  T : TabR w w.heap.size sA sc ss nA nc ns
  r1 : Rd w w.heap.size 1 A1 q1.ms.length c1 (strsV q1.ms)
  r2 : Rd w w.heap.size 1 A2 q2.ms.length c2 (strsV q2.ms)
  r3 : Rd w w.heap.size 4 F sfs.length fc (fdsV sfs)
section
variable {w w' : World} {bx b7 b9 b11 : Nat} {sA : Option Addr} {sc : Nat} {ss : List Sl} {nA : Option Addr} {nc : Nat} {ns : List Nl} {cur : Nat} {q1 : Sn} {A1 : Option Addr} {c1 : Nat} {q2 : Sn} {A2 : Option Addr} {c2 : Nat} {sid : UInt32} {sfs : List Fd} {F : Option Addr} {fc : Nat}
theorem FindB.keep (h : FindB w bx b7 b9 b11 sA sc ss nA nc ns cur q1 A1 c1 q2 A2 c2 sid sfs F fc) (hb : Below w.heap.size w w') : FindB w' bx b7 b9 b11 sA sc ss nA nc ns cur q1 A1 c1 q2 A2 c2 sid sfs F fc :=
  ⟨h.X.keep hb h.X.z, h.Y1.keep hb h.Y1.z, h.Y2.keep hb h.Y2.z, h.Y3.keep hb h.Y3.z, h.T.later hb, (h.r1.below hb).more hb.size, (h.r2.below hb).more hb.size, (h.r3.below hb).more hb.size⟩
end
end

section
open Go.RowKit

section
variable {w : World} {B sz g n c : Nat} {e : TypeId} {xs : List Value}
theorem own_cell (h : w.ownsRow B e sz (.slice (some ⟨g, 0, none⟩) n c) n xs) {j : Nat} (hj : j < n * sz) : (w.cell? ⟨g, j, none⟩).isSome = true := by
  obtain ⟨cur, hc, hb, hs, hn, hm, ht, hl⟩ := own_blk h
  have : j < cur.size := by have := Nat.mul_le_mul_right sz hn; omega
  simp [World.cell?, hc, this]
end
end

section
open Go.RowKit

theorem BoxT.oth {w w' : World} {b g : Nat} {cs : List Value} {t : TypeId} (h : BoxT w b cs t) (ho : Oth g w w') (hne : b ≠ g) : BoxT w' b cs t := by
  obtain ⟨arr, ha⟩ := h.ty
  exact ⟨h.bx.oth ho hne, arr, (ho.block b h.bx.z hne).trans ha⟩
end

section
open Go.RowKit

theorem names_len {l : List ByteArray} (h : namesOk l = true) : l.length ≤ 8 := by
  unfold namesOk at h
  simp only [Bool.and_eq_true, decide_eq_true_eq] at h
  exact h.1
end

section
open Go.RowKit

theorem TabR.nil (w : World) (B : Nat) : TabR w B none 0 [] none 0 [] := ⟨Rd.nil _ _ _, by simp, Rd.nil _ _ _, by simp⟩
theorem own_slice {w : World} {base sz n : Nat} {e : TypeId} {v : Value} {xs : List Value} (h : w.ownsRow base e sz v n xs) : ∃ A c, v = .slice A n c := by
  obtain ⟨A, c, e, _⟩ := Rd.of_own h
  exact ⟨A, c, e⟩
end

section
theorem getD_at {α : Type} (l : List α) (d : α) {i : Nat} (h : i < l.length) : l.getD i d = l[i] := by
  rw [List.getD, List.getElem?_eq_getElem h]
  rfl
def RN (a b : Sn) : Prop := a.id.toNat < b.id.toNat ∧ a.seq.toNat ≤ b.seq.toNat ∧ a.off.toNat ≤ b.off.toNat ∧ a.tim.toNat ≤ b.tim.toNat ∧ a.sch.toNat ≤ b.sch.toNat
theorem RN.trans {a b c : Sn} (h : RN a b) (k : RN b c) : RN a c := by
  unfold RN at *
  omega
end

section
open Go.RowKit

section
variable {w w' : World} {e : Ending} {er cu : Nat} {cs : List Ps} {cn : List Sn}
end
/-- a table in a box -/
structure TBox (w : World) (b : Nat) (sA : Option Addr) (sc : Nat) (ss : List Sl) (nA : Option Addr) (nc : Nat) (ns : List Nl) (cu : Nat) : Prop where
  bx : BoxN w b #[.slice sA ss.length sc, .slice nA ns.length nc, .int .u64 (cu : Int)].toList
  tab : TabR w w.heap.size sA sc ss nA nc ns
section
variable {w w' : World} {b : Nat} {sA : Option Addr} {sc : Nat} {ss : List Sl} {nA : Option Addr} {nc : Nat} {ns : List Nl} {cu : Nat}
theorem TBox.keep (h : TBox w b sA sc ss nA nc ns cu) (hb : Below w.heap.size w w') : TBox w' b sA sc ss nA nc ns cu := ⟨h.bx.keep hb h.bx.z, h.tab.later hb⟩
end
/-- the law's arguments in their boxes -/
structure StepB (w : World) (b4 b5 b6 : Nat) (sA : Option Addr) (sc : Nat) (ss : List Sl) (nA : Option Addr) (nc : Nat) (ns : List Nl) (cur : Nat) (p : Sn) (pA : Option Addr) (pc : Nat) (sid : UInt32) (sfs : List Fd) (fA : Option Addr) (fc : Nat) (ids : List UInt64) (iA : Option Addr) (ic : Nat) : Prop where
  t : TBox w b4 sA sc ss nA nc ns cur
  s : BoxN w b5 #[.int .u64 (p.id.toNat : Int), .int .u64 (p.par.toNat : Int), .int .u64 (p.seq.toNat : Int), .int .u64 (p.off.toNat : Int), .int .u64 (p.tim.toNat : Int), .int .u32 (p.sch.toNat : Int), .slice pA p.ms.length pc].toList
  h : BoxN w b6 [.int .u32 (sid.toNat : Int), .slice fA sfs.length fc]
  rs : Rd w w.heap.size 1 pA p.ms.length pc (strsV p.ms)
  rh : Rd w w.heap.size 4 fA sfs.length fc (fdsV sfs)
  ri : Rd w w.heap.size 1 iA ids.length ic (u64sV ids)
section
variable {w w' : World} {b4 b5 b6 : Nat} {sA : Option Addr} {sc : Nat} {ss : List Sl} {nA : Option Addr} {nc : Nat} {ns : List Nl} {cur : Nat} {p : Sn} {pA : Option Addr} {pc : Nat} {sid : UInt32} {sfs : List Fd} {fA : Option Addr} {fc : Nat} {ids : List UInt64} {iA : Option Addr} {ic : Nat}
theorem StepB.keep (q : StepB w b4 b5 b6 sA sc ss nA nc ns cur p pA pc sid sfs fA fc ids iA ic) (hb : Below w.heap.size w w') : StepB w' b4 b5 b6 sA sc ss nA nc ns cur p pA pc sid sfs fA fc ids iA ic :=
  ⟨q.t.keep hb, q.s.keep hb q.s.z, q.h.keep hb q.h.z, (q.rs.below hb).more hb.size, (q.rh.below hb).more hb.size, (q.ri.below hb).more hb.size⟩
end
end

section
open Go.ChangeShapes Go.WideShapes Go.ChangeAt Go.RowKit
open Go.ChangeMaps (open_string shut_string)

theorem rd_row {k : IntKind} {w : World} {x : Addr} {len cap : Nat} {zs : List Int} (hl : len ≤ cap) (hm : cap ≤ maxLen) (hz : zs.length = cap)
    (hcell : ∀ i, i < zs.length → w.cell? (x.add i) = some (.int k (zs.getD i 0))) : Rd w w.heap.size 1 (some x) len cap ((zs.take len).map (.int k)) := by
  refine ⟨by simp; omega, hl, hm, fun hn => ?_⟩
  obtain ⟨b, off, spot⟩ := x
  have h0 := hcell 0 (by omega)
  have hspot : spot = none := by simpa [Addr.add] using World.cell?_spot h0
  subst hspot
  refine ⟨b, off, rfl, ?_, fun j u hu => ?_⟩
  · exact World.block_lt_of_cell? w _ h0
  · have hj : j < len := by
      have := (List.getElem?_eq_some_iff.1 hu).1
      simp at this
      omega
    have h1 := hcell j (by omega)
    rw [Addr.add_lit] at h1
    rw [h1]
    simp [hj, show j < zs.length by omega] at hu
    simp [List.getD, show j < zs.length by omega, hu]

section
variable {H : Type} {enc : TypeId × Value → H} {P : Program} {W : World} {t e : TypeId} {k : IntKind} {v : Value} {d : DataW H} {ps : List MemPlace} {r : Reach} {base : Nat}
/-- a slice of integers that came in -/
theorem frame_ints (ht : P.underlying t = some (.slice e)) (he : P.underlying e = some (.int k)) (hc : P.cellsOf e = 1) (hv : Value.okWide P W r base t v)
    (h : DataW.Trod enc P W 0 (fun _ => true) true t v d ps) :
    ∃ (A : Option Addr) (n c : Nat) (zs : List Int), v = .slice A n c ∧ Rd W W.heap.size 1 A n c (zs.map (.int k)) ∧ (∀ z ∈ zs, (Lit.int k z).wf = true) ∧
      (n = 0 ∨ ∃ elems spare, d = .slice elems spare ∧ n ≤ elems.length + spare.length) := by
  obtain ⟨A, n, c, rfl⟩ := okWide_slice ht hv
  obtain ⟨fuel, hf⟩ := h
  rcases open_ints ht he hc hf with ⟨hcs, _⟩ | ⟨x, l, cp, zs, hcs, _, hl, hm, hz, hx, hcell, hwz⟩
  · simp [Value.cells] at hcs
    obtain ⟨rfl, rfl, rfl⟩ := hcs
    exact ⟨_, _, _, [], rfl, Rd.nil _ _ _, by simp, .inl rfl⟩
  · simp [Value.cells] at hcs
    obtain ⟨rfl, rfl, rfl⟩ := hcs
    have hz' : zs.length = c := by simpa using hz
    refine ⟨_, _, _, zs.take n, rfl, rd_row hl hm hz' hcell, fun z hz => hwz z (List.mem_of_mem_take hz), .inr ?_⟩
    simp only [Prod.mk.injEq] at hx
    exact ⟨_, _, hx.1, by simp [Go.ChangeShapes.lits]; omega⟩
/-- a slice of bytes that came in -/
theorem frame_bytes (ht : P.underlying t = some (.slice e)) (he : P.underlying e = some (.int .u8)) (hc : P.cellsOf e = 1) (hv : Value.okWide P W r base t v)
    (h : DataW.Trod enc P W 0 (fun _ => true) true t v d ps) :
    ∃ (A : Option Addr) (n c : Nat) (l : List UInt8), v = .slice A n c ∧ Rd W W.heap.size 1 A n c (bytesV l) ∧
      (n = 0 ∨ ∃ elems spare, d = .slice elems spare ∧ n ≤ elems.length + spare.length) := by
  obtain ⟨A, n, c, zs, rfl, hr, hwf, hd⟩ := frame_ints ht he hc hv h
  refine ⟨A, n, c, zs.map fun z => UInt8.ofNat z.toNat, rfl, ?_, hd⟩
  have e : bytesV (zs.map fun z => UInt8.ofNat z.toNat) = zs.map (.int .u8) := by
    unfold bytesV
    rw [List.map_map]
    refine List.map_congr_left fun z hz => ?_
    have := bounds_u8 (hwf z hz)
    simp only [Function.comp, byteV]
    congr 1
    rw [UInt8.toNat_ofNat_of_lt' (by simp [UInt8.size]; omega)]
    omega
  rw [e]
  exact hr
end
end

section
open Go.ChangeShapes Go.WideShapes Go.ChangeAt Go.RowKit Go.Deep Go.Joins

section
variable {H : Type} {enc : TypeId × Value → H} {w : World} {base : Nat} {spare : Nat → Bool} {held : Bool} {fuel : Nat}
/-- a field of a struct of one-cell fields, by its place -/
theorem trod_at {P : Program} {t : TypeId} {fs : Array Field} {cs : List Value} {x : DataW H × List MemPlace} {F : Nat} (ht : P.underlying t = some (.struct fs)) (hone : oneCellFields P fs = true) (h : DataW.trod enc P w base spare held F t cs = some x) (hl : cs.length = fs.size) :
    ∃ n, ∀ (i : Nat) (f : Field) (c : Value), fs[i]? = some f → cs[i]? = some c → ∃ y, DataW.trod enc P w base spare held n f.type [c] = some y := by
  obtain ⟨ys, n, _, _, _, hyl, hf⟩ := DataW.trod_struct ht h
  refine ⟨n, fun i f c hi hc => ?_⟩
  obtain ⟨ho, hk⟩ := hone_of hone i f hi
  have h1 := hf i f hi
  rw [ho, hk] at h1
  have hil : i < cs.length := (List.getElem?_eq_some_iff.1 hc).1
  have e : (cs.drop i).take 1 = [c] := by
    rw [List.drop_eq_getElem_cons hil]
    have := (List.getElem?_eq_some_iff.1 hc).2
    simp [this]
  rw [e] at h1
  have hys : i < ys.length := by rw [hyl]; rw [← hl]; exact hil
  exact ⟨_, h1.trans (List.getElem?_eq_getElem hys)⟩
end
end

section
open Go.RowKit

/-- a whole number as a number -/
def zig (n : Int) : Nat := if 0 ≤ n then (2 * n).toNat else (-2 * n - 1).toNat
/-- and back -/
def unzig (m : Nat) : Int := if m % 2 = 0 then (m / 2 : Nat) else -((m / 2 : Nat) : Int) - 1
theorem zig_lt {n : Int} (h0 : -9223372036854775808 ≤ n) (h1 : n ≤ 9223372036854775807) : zig n < 18446744073709551616 := by
  unfold zig; split <;> omega
theorem xor_ones (a : Nat) (ha : a < 18446744073709551616) : bits .xor .u64 (a : Int) 18446744073709551615 = 18446744073709551615 - (a : Int) := by
  have h := u64_xor_nat a 18446744073709551615 ha (by omega)
  have e : a ^^^ 18446744073709551615 = 18446744073709551615 - a := by
    have h1 : (BitVec.ofNat 64 a ^^^ BitVec.allOnes 64) = ~~~ (BitVec.ofNat 64 a) := BitVec.xor_allOnes
    have h2 := congrArg BitVec.toNat h1
    rw [BitVec.toNat_xor, BitVec.toNat_not, BitVec.toNat_allOnes, BitVec.toNat_ofNat] at h2
    rw [Nat.mod_eq_of_lt (by omega)] at h2
    exact h2
  rw [e] at h
  rw [show (18446744073709551615 : Int) = ((18446744073709551615 : Nat) : Int) from rfl, h]
  omega
theorem xor_zero (a : Nat) (ha : a < 18446744073709551616) : bits .xor .u64 (a : Int) 0 = (a : Int) := by
  have h := u64_xor_nat a 0 ha (by omega)
  simpa using h
theorem putInt_arg (n : Int) (h0 : -9223372036854775808 ≤ n) (h1 : n ≤ 9223372036854775807) :
    bits BinOp.xor .u64 (IntKind.u64.wrap (wrap64 (n * 2))) (IntKind.u64.wrap (n / 9223372036854775808)) = (zig n : Int) := by
  by_cases hs : 0 ≤ n
  · have e1 : n / 9223372036854775808 = 0 := by omega
    have e2 : IntKind.u64.wrap (wrap64 (n * 2)) = ((2 * n).toNat : Int) := by
      rw [show IntKind.u64.wrap (wrap64 (n * 2)) = (wrap64 (n * 2)) % 18446744073709551616 by simp [IntKind.wrap, IntKind.bits, IntKind.signed]]
      unfold wrap64; omega
    rw [e1, e2, show IntKind.u64.wrap 0 = 0 from rfl, xor_zero _ (by omega)]
    unfold zig; rw [if_pos hs]
  · have e1 : n / 9223372036854775808 = -1 := by omega
    have e2 : IntKind.u64.wrap (wrap64 (n * 2)) = ((2 * n + 18446744073709551616).toNat : Int) := by
      rw [show IntKind.u64.wrap (wrap64 (n * 2)) = (wrap64 (n * 2)) % 18446744073709551616 by simp [IntKind.wrap, IntKind.bits, IntKind.signed]]
      unfold wrap64; omega
    rw [e1, e2, show IntKind.u64.wrap (-1) = 18446744073709551615 from rfl, xor_ones _ (by omega)]
    unfold zig; rw [if_neg hs]; omega

theorem varPutInt (n : Int) (w : World) (h0 : -9223372036854775808 ≤ n) (h1 : n ≤ 9223372036854775807) :
    Calls Tryd.prog 57 #[.int .i64 n] w (RetBytes w (Var.put (zig n))) := by
  have hz := hide (zig_lt h0 h1)
  have ha := putInt_arg n h0 h1
  clear h0 h1
  go_enter Tryd.func57, Tryd.ntmps57
  go_wp2_with fail
  refine (varPut _ _ (by omega) (by have := hz.out; omega)).mono ?_
  rintro e w1 ⟨v1, rfl, hown1, hb1⟩
  rw [Int.toNat_natCast] at hown1
  clear ha
  go_wp2_with fail
  go_ret
  exact ⟨v1, rfl, hown1, hb1⟩

theorem refPutInt (n : Int) (w : World) (h0 : -9223372036854775808 ≤ n) (h1 : n ≤ 9223372036854775807) :
    Calls Tryd.prog 44 #[.int .i64 n] w (RetBytes w (Var.put (zig n))) := by
  have hz := hide (zig_lt h0 h1)
  by_cases hs : 0 ≤ n
  · have ht : decide ((0 : Int) ≤ n) = true := by simp; omega
    have ha : IntKind.u64.wrap (2 * IntKind.u64.wrap n) = (zig n : Int) := by
      rw [IntWalk.u64_in n ⟨by omega, by omega⟩, IntWalk.u64_in _ ⟨by omega, by omega⟩]
      unfold zig; rw [if_pos hs]; omega
    clear h0 h1 hs
    go_enter Tryd.func44, Tryd.ntmps44
    go_wp2_with fail
    refine (refPut _ _ (by omega) (by have := hz.out; omega)).mono ?_
    rintro e w1 ⟨v1, rfl, hown1, hb1⟩
    rw [Int.toNat_natCast] at hown1
    clear ha
    go_wp2_with fail
    go_ret
    exact ⟨v1, rfl, hown1, hb1⟩
  · have ht : decide ((0 : Int) ≤ n) = false := by simp; omega
    have ha : IntKind.u64.wrap (IntKind.u64.wrap (2 * IntKind.u64.wrap (wrap64 (-wrap64 (n + 1)))) + 1) = (zig n : Int) := by
      rw [IntWalk.wrap64_in (n + 1) ⟨by omega, by omega⟩, IntWalk.wrap64_in _ ⟨by omega, by omega⟩, IntWalk.u64_in (-(n + 1)) ⟨by omega, by omega⟩,
        IntWalk.u64_in (2 * -(n + 1)) ⟨by omega, by omega⟩, IntWalk.u64_in _ ⟨by omega, by omega⟩]
      unfold zig; rw [if_neg hs]; omega
    clear h0 h1 hs
    go_enter Tryd.func44, Tryd.ntmps44
    go_wp2_with fail
    refine (refPut _ _ (by omega) (by have := hz.out; omega)).mono ?_
    rintro e w1 ⟨v1, rfl, hown1, hb1⟩
    rw [Int.toNat_natCast] at hown1
    clear ha
    go_wp2_with fail
    go_ret
    exact ⟨v1, rfl, hown1, hb1⟩
end

section
open Go.RowKit

def IntGet (l : List UInt8) : Value := .tuple #[.int .i64 (unzig (Var.get l).1), .int .i64 ((Var.get l).2.1 : Int), .int .i64 ((Var.get l).2.2 : Int)]
def RetInt (w : World) (l : List UInt8) (e : Ending) (w' : World) : Prop := e = .returned (IntGet l) ∧ w = w'

theorem getInt_val (g : Nat) (h : g < 18446744073709551616) :
    bits BinOp.xor .i64 (wrap64 ((g : Int) / 2)) (wrap64 (-wrap64 (bits BinOp.and .u64 (g : Int) 1))) = unzig g := by
  have e1 : bits BinOp.and .u64 (g : Int) 1 = ((g % 2 : Nat) : Int) := by
    have := u64_and_nat g 1 h (by omega)
    rw [nat_mask1] at this
    exact this
  have e2 : wrap64 ((g : Int) / 2) = ((g / 2 : Nat) : Int) := by rw [IntWalk.wrap64_in _ ⟨by omega, by omega⟩]; omega
  rw [e1, e2]
  rcases (show g % 2 = 0 ∨ g % 2 = 1 by omega) with h0 | h0
  · rw [h0]
    show IntKind.i64.wrap ((BitVec.ofInt 64 ((g / 2 : Nat) : Int) ^^^ BitVec.ofInt 64 (wrap64 (-wrap64 ((0 : Nat) : Int)))).toNat : Int) = _
    rw [show wrap64 (-wrap64 ((0 : Nat) : Int)) = 0 by decide +kernel, show BitVec.ofInt 64 0 = 0#64 from rfl, BitVec.xor_zero, BitVec.ofInt_natCast, BitVec.toNat_ofNat,
      Nat.mod_eq_of_lt (by omega), IntWalk.i64_in _ ⟨by omega, by omega⟩]
    unfold unzig; rw [if_pos h0]
  · rw [h0]
    show IntKind.i64.wrap ((BitVec.ofInt 64 ((g / 2 : Nat) : Int) ^^^ BitVec.ofInt 64 (wrap64 (-wrap64 ((1 : Nat) : Int)))).toNat : Int) = _
    rw [show wrap64 (-wrap64 ((1 : Nat) : Int)) = -1 by decide +kernel, show BitVec.ofInt 64 (-1) = BitVec.allOnes 64 from by decide, BitVec.xor_allOnes, BitVec.toNat_not,
      BitVec.ofInt_natCast, BitVec.toNat_ofNat, Nat.mod_eq_of_lt (by omega), IntKind.wrap_i64]
    unfold unzig; rw [if_neg (by omega)]
    omega

theorem varGetInt (w : World) (B n c : Nat) (A : Option Addr) (l : List UInt8) (hr : Rd w B 1 A n c (bytesV l)) :
    Calls Tryd.prog 58 #[.slice A n c] w (RetInt w l) := by
  obtain ⟨g, hg⟩ : ∃ g, g = (Var.get l).1 := ⟨_, rfl⟩
  have hlt : g < 18446744073709551616 := by rw [hg]; exact Var.get_lt l
  have HG := hide hg
  have HL := hide hlt
  clear hg hlt
  go_enter Tryd.func58, Tryd.ntmps58
  go_wp2_with fail
  refine (varGet w B n c A l hr).mono ?_
  rintro e w1 ⟨rfl, rfl⟩
  rw [← HG.out]
  go_wp2
  go_ret3
  refine ⟨?_, rfl⟩
  unfold IntGet
  rw [← HG.out, ← getInt_val g HL.out]
  rfl
end

section
def packF (f : Fd) : List UInt8 := Var.put f.id.toNat ++ (Var.put f.name.size ++ (f.name.data.toList ++ (Var.put f.kind.toNat ++ [if f.need then 1 else 0])))
def packFs (l : List Fd) : List UInt8 := l.flatMap packF
def pack (id : UInt32) (l : List Fd) : List UInt8 := Var.put id.toNat ++ (Var.put l.length ++ packFs l)
/-- the names of a schema that may be are short -/
theorem check_names {id : UInt32} {l : List Fd} (h : check id l = 0) : ∀ f ∈ l, f.name.size ≤ 16 := by
  intro f hf
  obtain ⟨k, hk, rfl⟩ := List.getElem_of_mem hf
  have h0 := check_all h k hk
  have hg : l.getD k default = l[k] := by simp [List.getD, hk]
  by_cases h1 : l[k].id.toNat ≤ wasId l k
  · rw [errAt_81 (f := l[k]) hg h1] at h0; cases h0
  · cases hn : named l[k].name with
    | false => rw [errAt_80 (f := l[k]) hg h1 (by rw [hn]; rfl)] at h0; cases h0
    | true =>
      unfold named at hn
      simp at hn
      omega
end

section
open Go.RowKit

def Sized (l : List Fd) : Prop := l.length ≤ 1000000 ∧ ∀ j, j < l.length → (l.getD j default).name.size ≤ 1000000
end

section
namespace Crc
abbrev W := BitVec 32
def poly : W := 0xedb88320#32
def bit (c : W) : W := (c >>> 1) ^^^ (if c.getLsbD 0 then poly else 0#32)
def bits : Nat → W → W
  | 0, c => c
  | n + 1, c => bits n (bit c)
def byteS (c : W) (x : UInt8) : W := bits 8 (c ^^^ BitVec.ofNat 32 x.toNat)
def tab (n : Nat) : W := [0x00000000#32, 0x1db71064#32, 0x3b6e20c8#32, 0x26d930ac#32, 0x76dc4190#32, 0x6b6b51f4#32, 0x4db26158#32, 0x5005713c#32, 0xedb88320#32, 0xf00f9344#32, 0xd6d6a3e8#32, 0xcb61b38c#32, 0x9b64c2b0#32, 0x86d3d2d4#32, 0xa00ae278#32, 0xbdbdf21c#32].getD n 0#32
def half (c : W) : W := (c >>> 4) ^^^ tab (c.toNat % 16)
def raw (c : W) (l : List UInt8) : W := l.foldl byteS c
def more (c : W) (l : List UInt8) : W := ~~~ (raw (~~~ c) l)
def crc (l : List UInt8) : W := more 0#32 l

theorem bit_xor (a b : W) : bit (a ^^^ b) = bit a ^^^ bit b := by
  unfold bit
  rw [BitVec.ushiftRight_xor_distrib, BitVec.getLsbD_xor]
  cases a.getLsbD 0 <;> cases b.getLsbD 0 <;> simp only [Bool.xor_false, Bool.false_xor, Bool.true_xor, Bool.xor_true, Bool.not_true, Bool.not_false, if_true, Bool.false_eq_true, if_false, BitVec.xor_zero]
  · ac_rfl
  · ac_rfl
  · have e : a >>> 1 ^^^ poly ^^^ (b >>> 1 ^^^ poly) = (a >>> 1 ^^^ b >>> 1) ^^^ (poly ^^^ poly) := by ac_rfl
    rw [e, BitVec.xor_self, BitVec.xor_zero]
theorem bit_zero : bit 0#32 = 0#32 := by decide
theorem bits_xor (n : Nat) : ∀ a b : W, bits n (a ^^^ b) = bits n a ^^^ bits n b := by
  induction n with
  | zero => intro a b; rfl
  | succ n ih => intro a b; simp only [bits, bit_xor, ih]
theorem bits_zero (n : Nat) : bits n 0#32 = 0#32 := by
  induction n with
  | zero => rfl
  | succ n ih => simp only [bits, bit_zero, ih]
theorem bits_add (m n : Nat) : ∀ c, bits (m + n) c = bits n (bits m c) := by
  induction m with
  | zero => intro c; simp [bits]
  | succ m ih => intro c; rw [Nat.succ_add]; simp only [bits, ih]
theorem bit_ker {c : W} (h : bit c = 0#32) : c = 0#32 := by
  unfold bit at h
  cases h0 : c.getLsbD 0 with
  | true =>
    rw [h0, if_pos rfl] at h
    have h1 : (c >>> 1) = poly := by
      have := congrArg (· ^^^ poly) h
      simpa [BitVec.xor_assoc] using this
    have h2 := congrArg (fun x : W => x.getLsbD 31) h1
    simp [poly] at h2
  | false =>
    rw [h0] at h
    simp at h
    apply BitVec.eq_of_getLsbD_eq
    intro i hi
    cases i with
    | zero => rw [h0]; simp
    | succ i =>
      have h2 := congrArg (fun x : W => x.getLsbD i) h
      simp only [BitVec.getLsbD_ushiftRight] at h2
      rw [Nat.add_comm] at h2
      rw [h2]; simp
theorem bits_ker (n : Nat) : ∀ {c : W}, bits n c = 0#32 → c = 0#32 := by
  induction n with
  | zero => intro c h; exact h
  | succ n ih => intro c h; exact bit_ker (ih h)
/-- a number whose lowest bits are none: only halved -/
theorem bits_low (n : Nat) : ∀ c : W, (∀ i, i < n → c.getLsbD i = false) → bits n c = c >>> n := by
  induction n with
  | zero => intro c _; simp [bits]
  | succ n ih =>
    intro c h
    have h0 := h 0 (by omega)
    have hb : bit c = c >>> 1 := by unfold bit; rw [h0]; simp
    simp only [bits]
    rw [hb, ih]
    · rw [← BitVec.shiftRight_add, Nat.add_comm]
    · intro i hi
      rw [BitVec.getLsbD_ushiftRight]
      exact h (1 + i) (by omega)
theorem split (c : W) (n : Nat) : c = (c >>> n <<< n) ^^^ (c &&& (BitVec.ofNat 32 (2 ^ n - 1))) := by
  apply BitVec.eq_of_getLsbD_eq
  intro i hi
  simp only [BitVec.getLsbD_xor, BitVec.getLsbD_shiftLeft, BitVec.getLsbD_ushiftRight, BitVec.getLsbD_and, BitVec.getLsbD_ofNat, Nat.testBit_two_pow_sub_one]
  by_cases h : i < n
  · simp [h, hi]
  · have e : n + (i - n) = i := by omega
    simp [h, hi, e]
theorem half_eq (c : W) : half c = bits 4 c := by
  have hs := split c 4
  have h1 : bits 4 (c >>> 4 <<< 4) = c >>> 4 := by
    rw [bits_low 4 _ (by intro i hi; simp [BitVec.getLsbD_shiftLeft, hi])]
    apply BitVec.eq_of_getLsbD_eq
    intro i hi
    simp only [BitVec.getLsbD_shiftLeft, BitVec.getLsbD_ushiftRight]
    by_cases h4 : 4 + i < 32
    · have e : 4 + (4 + i - 4) = 4 + i := by omega
      simp [h4, e]
    · rw [BitVec.getLsbD_of_ge c (4 + i) (by omega)]
      simp [h4]
  have h2 : ∀ k, k < 16 → bits 4 (BitVec.ofNat 32 k) = tab k := by decide +kernel
  have h3 : (c &&& BitVec.ofNat 32 (2 ^ 4 - 1)) = BitVec.ofNat 32 (c.toNat % 16) := by
    apply BitVec.eq_of_toNat_eq
    simp only [BitVec.toNat_and, BitVec.toNat_ofNat]
    have : (2 ^ 4 - 1) % 2 ^ 32 = 15 := by decide
    rw [this, show (15 : Nat) = 2 ^ 4 - 1 from rfl, Nat.and_two_pow_sub_one_eq_mod]
    omega
  conv => rhs; rw [hs, bits_xor, h1, h3, h2 _ (Nat.mod_lt _ (by omega))]
  rfl
theorem byteS_half (c : W) (x : UInt8) : half (half (c ^^^ BitVec.ofNat 32 x.toNat)) = byteS c x := by
  rw [half_eq, half_eq, ← bits_add]; rfl

/-! ### differences -/
theorem raw_cons (c : W) (x : UInt8) (l : List UInt8) : raw c (x :: l) = raw (byteS c x) l := rfl
theorem raw_append (c : W) (a b : List UInt8) : raw c (a ++ b) = raw (raw c a) b := List.foldl_append ..
/-- fed bit by bit -/
def rawB : W → List Bool → W
  | c, [] => c
  | c, b :: r => rawB (bit (c ^^^ (if b then 1#32 else 0#32))) r
theorem rawB_append (a b : List Bool) : ∀ c, rawB c (a ++ b) = rawB (rawB c a) b := by
  induction a with
  | nil => intro c; rfl
  | cons x a ih => intro c; simp only [List.cons_append, rawB, ih]
/-- n bits of a number, the lowest first -/
def low (n : Nat) (x : Nat) : List Bool := (List.range n).map x.testBit
theorem low_succ (n x : Nat) : low (n + 1) x = x.testBit 0 :: low n (x / 2) := by
  unfold low
  rw [List.range_succ_eq_map, List.map_cons, List.map_map]
  congr 1
  refine List.map_congr_left fun i _ => ?_
  simp [Function.comp, Nat.testBit_succ]
theorem bit_low (c : W) (x : Nat) (h : x < 2 ^ 32) : bit (c ^^^ BitVec.ofNat 32 x) = bit (c ^^^ (if x.testBit 0 then 1#32 else 0#32)) ^^^ BitVec.ofNat 32 (x / 2) := by
  rw [bit_xor, bit_xor]
  have e : bit (BitVec.ofNat 32 x) = bit (if x.testBit 0 then 1#32 else 0#32) ^^^ BitVec.ofNat 32 (x / 2) := by
    have hs : (BitVec.ofNat 32 x) >>> 1 = BitVec.ofNat 32 (x / 2) := by
      apply BitVec.eq_of_toNat_eq
      simp only [BitVec.toNat_ushiftRight, BitVec.toNat_ofNat, Nat.shiftRight_eq_div_pow]
      omega
    unfold bit
    rw [hs]
    have hl : (BitVec.ofNat 32 x).getLsbD 0 = x.testBit 0 := by rw [BitVec.getLsbD_ofNat]; simp
    rw [hl]
    cases x.testBit 0
    · simp
    · have h1 : (1#32 : W) >>> 1 = 0#32 := by decide
      have h2 : (1#32 : W).getLsbD 0 = true := by decide
      simp only [if_true, h1, h2]
      rw [BitVec.zero_xor, BitVec.xor_comm]
  rw [e, BitVec.xor_assoc]
theorem bits_rawB (n : Nat) : ∀ (c : W) (x : Nat), x < 2 ^ n → n ≤ 32 → bits n (c ^^^ BitVec.ofNat 32 x) = rawB c (low n x) := by
  induction n with
  | zero =>
    intro c x h _
    have : x = 0 := by simpa using h
    subst this
    simp [bits, low, rawB]
  | succ n ih =>
    intro c x h hn
    have h32 : x < 2 ^ 32 := Nat.lt_of_lt_of_le h (Nat.pow_le_pow_right (by omega) hn)
    rw [low_succ]
    simp only [bits, rawB]
    rw [bit_low c x h32, ih _ _ (by rw [Nat.pow_succ] at h; omega) (by omega)]
def bitsOf : List UInt8 → List Bool
  | [] => []
  | x :: l => low 8 x.toNat ++ bitsOf l
theorem raw_rawB (l : List UInt8) : ∀ c, raw c l = rawB c (bitsOf l) := by
  induction l with
  | nil => intro c; rfl
  | cons x l ih =>
    intro c
    rw [raw_cons, ih]
    simp only [bitsOf, rawB_append]
    rw [← bits_rawB 8 c x.toNat x.toNat_lt (by omega)]
    rfl
theorem rawB_xor : ∀ (a b : List Bool) (c d : W), a.length = b.length → rawB c a ^^^ rawB d b = rawB (c ^^^ d) (List.zipWith xor a b)
  | [], [], c, d, _ => rfl
  | x :: a, y :: b, c, d, h => by
    simp only [rawB, List.zipWith_cons_cons]
    rw [rawB_xor a b _ _ (by simpa using h), ← bit_xor]
    congr 2
    cases x <;> cases y <;> simp only [Bool.xor_false, Bool.false_xor, Bool.xor_true, Bool.not_true, Bool.not_false, if_true, Bool.false_eq_true, if_false, BitVec.xor_zero]
    · ac_rfl
    · ac_rfl
    · have e : (c ^^^ 1#32) ^^^ (d ^^^ 1#32) = (c ^^^ d) ^^^ (1#32 ^^^ 1#32) := by ac_rfl
      rw [e, BitVec.xor_self, BitVec.xor_zero]
  | [], _ :: _, _, _, h => by simp at h
  | _ :: _, [], _, _, h => by simp at h
theorem rawB_zeros (n : Nat) : ∀ c, rawB c (List.replicate n false) = bits n c := by
  induction n with
  | zero => intro c; rfl
  | succ n ih => intro c; simp only [List.replicate_succ, rawB, bits, ih, Bool.false_eq_true, if_false, BitVec.xor_zero]
/-- the number whose bits they are -/
def num : List Bool → Nat
  | [] => 0
  | b :: r => (if b then 1 else 0) + 2 * num r
theorem num_lt (l : List Bool) : num l < 2 ^ l.length := by
  induction l with
  | nil => simp [num]
  | cons b r ih => simp only [num, List.length_cons, Nat.pow_succ]; split <;> omega
theorem low_num (l : List Bool) : low l.length (num l) = l := by
  induction l with
  | nil => rfl
  | cons b r ih =>
    rw [List.length_cons, low_succ]
    have h1 : (num (b :: r)).testBit 0 = b := by
      simp only [num, Nat.testBit_zero]
      cases b <;> simp <;> omega
    have h2 : num (b :: r) / 2 = num r := by simp only [num]; cases b <;> simp <;> omega
    rw [h1, h2, ih]
theorem num_pos (l : List Bool) (h : true ∈ l) : 0 < num l := by
  induction l with
  | nil => simp at h
  | cons b r ih =>
    simp only [num]
    cases b with
    | true => simp; omega
    | false =>
      have : true ∈ r := by simpa using h
      have := ih this
      omega
/-- a burst within 32 bits is seen -/
theorem burst_seen (w : List Bool) (m k : Nat) (hw : w.length ≤ 32) (h : true ∈ w) : rawB 0#32 (List.replicate m false ++ (w ++ List.replicate k false)) ≠ 0#32 := by
  intro he
  rw [rawB_append, rawB_zeros, bits_zero, rawB_append, rawB_zeros] at he
  have h1 := bits_ker k he
  have h2 := bits_rawB w.length 0#32 (num w) (num_lt w) hw
  rw [low_num, BitVec.zero_xor] at h2
  rw [← h2] at h1
  have h3 := bits_ker _ h1
  have h4 := congrArg BitVec.toNat h3
  have h5 := num_lt w
  have h6 : 2 ^ w.length ≤ 2 ^ 32 := Nat.pow_le_pow_right (by omega) hw
  simp only [BitVec.toNat_ofNat] at h4
  have := num_pos w h
  rw [Nat.mod_eq_of_lt (by omega)] at h4
  simp at h4
  omega
theorem bitsOf_length (l : List UInt8) : (bitsOf l).length = 8 * l.length := by
  induction l with
  | nil => rfl
  | cons x l ih => simp only [bitsOf, List.length_append, ih, List.length_cons]; simp [low]; omega
/-- two texts of one length: their sums differ as their difference's does from nothing -/
theorem crc_eq_iff (a b : List UInt8) (h : a.length = b.length) : crc a = crc b ↔ rawB 0#32 (List.zipWith xor (bitsOf a) (bitsOf b)) = 0#32 := by
  have e := rawB_xor (bitsOf a) (bitsOf b) (~~~ 0#32) (~~~ 0#32) (by rw [bitsOf_length, bitsOf_length, h])
  rw [BitVec.xor_self] at e
  rw [← e, ← raw_rawB, ← raw_rawB]
  unfold crc more
  constructor
  · intro hh
    have : raw (~~~ 0#32) a = raw (~~~ 0#32) b := by
      have := congrArg (fun x : W => ~~~ x) hh
      simpa using this
    rw [this, BitVec.xor_self]
  · intro hh
    have : raw (~~~ 0#32) a = raw (~~~ 0#32) b := by
      have := congrArg (· ^^^ raw (~~~ 0#32) b) hh
      simpa [BitVec.xor_assoc] using this
    rw [this]
/-- bit k of a text -/
def bitAt (l : List UInt8) (k : Nat) : Bool := ((l.getD (k / 8) 0).toNat).testBit (k % 8)
theorem bitsOf_get (l : List UInt8) : ∀ k, k < 8 * l.length → (bitsOf l)[k]? = some (bitAt l k) := by
  induction l with
  | nil => intro k h; simp at h
  | cons x l ih =>
    intro k h
    have hlow : (low 8 x.toNat).length = 8 := by simp [low]
    simp only [bitsOf]
    by_cases hk : k < 8
    · rw [List.getElem?_append_left (by omega)]
      have e1 : k / 8 = 0 := by omega
      have e2 : k % 8 = k := by omega
      simp [low, bitAt, e1, e2, hk]
    · rw [List.getElem?_append_right (by omega), hlow, ih (k - 8) (by simp at h; omega)]
      have e1 : k / 8 = (k - 8) / 8 + 1 := by omega
      have e2 : (k - 8) % 8 = k % 8 := by omega
      unfold bitAt
      rw [e1, List.getD_cons_succ, e2]
/-- texts that differ just at the bits 'from + j', j among those of a number of 32 bits -/
theorem crc_burst (a b : List UInt8) (h : a.length = b.length) (fr t : Nat)
    (hd : ∀ k, k < 8 * a.length → bitAt b k = xor (bitAt a k) (decide (fr ≤ k) && decide (k < fr + 32) && t.testBit (k - fr))) :
    crc a = crc b ↔ ∀ j, j < 32 → t.testBit j = true → 8 * a.length ≤ fr + j := by
  rw [crc_eq_iff a b h]
  let n := 8 * a.length
  let f : Nat → Bool := fun k => decide (fr ≤ k) && decide (k < fr + 32) && t.testBit (k - fr)
  have hz : List.zipWith xor (bitsOf a) (bitsOf b) = (List.range n).map f := by
    apply List.ext_getElem?
    intro k
    rw [List.getElem?_zipWith]
    by_cases hk : k < n
    · rw [bitsOf_get a k hk, bitsOf_get b k (by rw [← h]; exact hk), hd k hk]
      simp [hk, f]
    · have e1 : (bitsOf a)[k]? = none := List.getElem?_eq_none (by rw [bitsOf_length]; omega)
      rw [e1]
      simp [hk]
  rw [hz]
  constructor
  · intro hr j hj ht
    apply Classical.byContradiction
    intro hlt
    have hlt' : fr + j < n := by omega
    -- cut in three
    let m := min (fr + 32) n
    have e : (List.range n).map f = List.replicate fr false ++ (((List.range (m - fr)).map fun i => f (fr + i)) ++ List.replicate (n - m) false) := by
      apply List.ext_getElem?
      intro k
      by_cases hk1 : k < fr
      · rw [List.getElem?_append_left (by simpa using hk1)]
        have : k < n := by omega
        simp [this, hk1, f]; omega
      · rw [List.getElem?_append_right (by simpa using hk1)]
        simp only [List.length_replicate]
        by_cases hk2 : k < m
        · rw [List.getElem?_append_left (by simp; omega)]
          have h1 : k < n := by omega
          have h2 : k - fr < m - fr := by omega
          have h3 : fr + (k - fr) = k := by omega
          simp [h1, h2, h3]
        · rw [List.getElem?_append_right (by simp; omega)]
          simp only [List.length_map, List.length_range]
          by_cases hk3 : k < n
          · have h2 : k - fr - (m - fr) < n - m := by omega
            have h4 : ¬ k < fr + 32 := by omega
            simp [hk3, h2, f, h4]
          · have h2 : ¬ k - fr - (m - fr) < n - m := by omega
            simp [hk3, h2]
    rw [e] at hr
    refine burst_seen _ _ _ (by simp; omega) ?_ hr
    rw [List.mem_map]
    refine ⟨j, by simp; omega, ?_⟩
    simp [f, hj, ht]
  · intro hn
    have e : (List.range n).map f = List.replicate n false := by
      apply List.ext_getElem?
      intro k
      by_cases hk : k < n
      · have : f k = false := by
          cases hf : f k with
          | false => rfl
          | true =>
            simp only [f, Bool.and_eq_true, decide_eq_true_eq] at hf
            have := hn (k - fr) (by omega) hf.2
            omega
        simp [hk, this]
      · simp [hk]
    rw [e, rawB_zeros, bits_zero]
end Crc
end

section
open Go.RowKit

/-- the table of half bytes lies in the program's variable -/
def Table (w : World) : Prop := ∀ j, j < 16 → w.cell? ⟨0, j, none⟩ = some (.int .u32 ((Crc.tab j).toNat : Int))
theorem Table.below {B : Nat} {w w' : World} (h : Table w) (hb : Below B w w') (hB : 0 < B) : Table w' := fun j hj => (hb.cell (p := ⟨0, j, none⟩) hB).trans (h j hj)
theorem Table.pos {w : World} (h : Table w) : 0 < w.heap.size := World.block_lt_of_cell? w _ (h 0 (by omega))

theorem word_lt (c : Crc.W) : c.toNat < 4294967296 := c.isLt
theorem word_xor (a b : Crc.W) : bits BinOp.xor .u32 (a.toNat : Int) (b.toNat : Int) = ((a ^^^ b).toNat : Int) := by
  rw [u32_xor_nat _ _ (word_lt a) (word_lt b), BitVec.toNat_xor]

theorem word_not (a : Crc.W) : bits BinOp.xor .u32 IntKind.u32.max (a.toNat : Int) = ((~~~ a).toNat : Int) := by
  have h := word_xor (BitVec.allOnes 32) a
  rw [BitVec.allOnes_xor] at h
  exact h
theorem word_byte (a : Crc.W) (x : UInt8) : bits BinOp.xor .u32 (a.toNat : Int) (x.toNat : Int) = ((a ^^^ BitVec.ofNat 32 x.toNat).toNat : Int) := by
  have h := word_xor a (BitVec.ofNat 32 x.toNat)
  have hx := x.toNat_lt
  rw [BitVec.toNat_ofNat, Nat.mod_eq_of_lt (by omega)] at h
  exact h
theorem half_step (a : Crc.W) : ∃ Q T : Nat, Q < 16 ∧ T = (Crc.tab Q).toNat ∧ bits BinOp.and .u32 (a.toNat : Int) 15 = (Q : Int) ∧ bits BinOp.xor .u32 ((a.toNat : Int) / 16) (T : Int) = ((Crc.half a).toNat : Int) := by
  refine ⟨a.toNat % 16, _, Nat.mod_lt _ (by omega), rfl, ?_, ?_⟩
  · have h := u32_and_nat a.toNat 15 (word_lt a) (by omega)
    rw [nat_mask4] at h
    exact h
  · have e : (a.toNat : Int) / (16 : Int) = ((a >>> 4).toNat : Int) := by
      rw [BitVec.toNat_ushiftRight, Nat.shiftRight_eq_div_pow]; omega
    rw [e, word_xor]
    rfl
/-- one byte, by half bytes -/
theorem byte_step (a : Crc.W) (x : UInt8) : ∃ C1 Q1 T1 C2 Q2 T2 : Nat, Q1 < 16 ∧ Q2 < 16 ∧ T1 = (Crc.tab Q1).toNat ∧ T2 = (Crc.tab Q2).toNat ∧ C1 < 4294967296 ∧ C2 < 4294967296 ∧
    bits BinOp.xor .u32 (a.toNat : Int) (x.toNat : Int) = (C1 : Int) ∧ bits BinOp.and .u32 (C1 : Int) 15 = (Q1 : Int) ∧ bits BinOp.xor .u32 ((C1 : Int) / 16) (T1 : Int) = (C2 : Int) ∧
    bits BinOp.and .u32 (C2 : Int) 15 = (Q2 : Int) ∧ bits BinOp.xor .u32 ((C2 : Int) / 16) (T2 : Int) = ((Crc.byteS a x).toNat : Int) := by
  obtain ⟨Q1, T1, h1, h2, h3, h4⟩ := half_step (a ^^^ BitVec.ofNat 32 x.toNat)
  obtain ⟨Q2, T2, g1, g2, g3, g4⟩ := half_step (Crc.half (a ^^^ BitVec.ofNat 32 x.toNat))
  rw [Crc.byteS_half] at g4
  exact ⟨_, Q1, T1, _, Q2, T2, h1, g1, h2, g2, word_lt _, word_lt _, word_byte a x, h3, h4, g3, g4⟩

set_option maxRecDepth 100000 in
theorem crcMore (w : World) (c0 : Crc.W) (B n c : Nat) (A : Option Addr) (l : List UInt8) (hr : Rd w B 1 A n c (bytesV l)) (ht : Table w) :
    Calls Tryd.prog 52 #[.int .u32 (c0.toNat : Int), .slice A n c] w fun e w' => e = .returned (.int .u32 ((Crc.more c0 l).toNat : Int)) ∧ w = w' := by
  obtain rfl : n = l.length := by have := hr.len; rw [bytesV_length] at this; omega
  have hmax : l.length ≤ 9223372036854775807 := by have h1 := hr.le; have h2 := hr.cap; unfold maxLen at h2; omega
  have HT := hide ht
  have hn0 := word_not c0
  obtain ⟨N0, hN0⟩ : ∃ N : Nat, N = (~~~ c0).toNat := ⟨_, rfl⟩
  rw [← hN0] at hn0
  have HN0 := hide hN0
  clear ht hN0
  go_enter Tryd.func52, Tryd.ntmps52
  go_wp2
  clear hn0
  go_loop [0, 11] (fun cv iv => ∃ (k C : Nat), k ≤ l.length ∧ iv = .int .i64 k ∧ cv = .int .u32 C ∧ Hid (C = (Crc.raw (~~~ c0) (l.take k)).toNat)) (fun _ iv => l.length - (intOf iv).toNat)
  case atStart => exact ⟨0, N0, Nat.zero_le _, rfl, rfl, hide HN0.out⟩
  case round =>
    obtain ⟨k, C, hk, rfl, rfl, hC⟩ := hrel
    by_cases hlt : k < l.length
    · obtain ⟨b, off, rfl, _, hc⟩ := hr.cellAt (k := k) (by rw [bytesV_length]; exact hlt)
      obtain ⟨x, hx⟩ : ∃ x : UInt8, x = l[k] := ⟨_, rfl⟩
      have hc' : w.cell? ⟨b, off + k, none⟩ = some (.int .u8 (x.toNat : Int)) := by rw [hc, hx]; simp [bytesV, byteV]
      have hst : Crc.raw (~~~ c0) (l.take (k + 1)) = Crc.byteS (Crc.raw (~~~ c0) (l.take k)) x := by
        rw [List.take_succ_eq_append_getElem hlt, Crc.raw_append, ← hx]; rfl
      obtain ⟨C1, Q1, T1, C2, Q2, T2, q1, q2, d1, d2, l1, l2, e1, e2, e3, e4, e5⟩ := byte_step (Crc.raw (~~~ c0) (l.take k)) x
      have t1 := HT.out Q1 q1
      have t2 := HT.out Q2 q2
      rw [← d1] at t1
      rw [← d2] at t2
      rw [← hC.out] at e1
      rw [← hst] at e5
      obtain ⟨C3, hC3⟩ : ∃ C3, C3 = (Crc.raw (~~~ c0) (l.take (k + 1))).toNat := ⟨_, rfl⟩
      rw [← hC3] at e5
      have HC3 := hide hC3
      have hx256 := x.toNat_lt
      clear hc hx hst d1 d2 hC3
      go_wp2
      go_round
      case rel => exact ⟨k + 1, C3, by omega, by go_num, rfl, HC3⟩
      case measure => simp [intOf]; omega
    · obtain rfl : k = l.length := by omega
      have hfin := word_not (Crc.raw (~~~ c0) l)
      have hC' := hC.out
      rw [List.take_length] at hC'
      rw [← hC'] at hfin
      have HF := hide hfin
      clear hfin hC'
      go_wp2
      go_ret
      refine ⟨?_, rfl⟩
      show Ending.returned (.int .u32 (bits BinOp.xor .u32 IntKind.u32.max (C : Int))) = _
      rw [HF.out]
      rfl
theorem crcOf (w : World) (B n c : Nat) (A : Option Addr) (l : List UInt8) (hr : Rd w B 1 A n c (bytesV l)) (ht : Table w) :
    Calls Tryd.prog 41 #[.slice A n c] w fun e w' => e = .returned (.int .u32 ((Crc.crc l).toNat : Int)) ∧ w = w' := by
  have HT := hide ht
  clear ht
  go_enter Tryd.func41, Tryd.ntmps41
  go_wp2_with fail
  refine (crcMore w 0#32 B n c A l hr HT.out).mono ?_
  rintro e w1 ⟨rfl, rfl⟩
  go_wp2_with fail
  go_ret
  exact ⟨rfl, rfl⟩
end

section
open Go.RowKit

theorem cloneBytes (w : World) (B n c : Nat) (A : Option Addr) (xs : List Value) (hr : Rd w B 1 A n c xs) (h1 : ∀ u ∈ xs, u.oneCell' = true) (hb : n * 1 ≤ 140737488355328) (hB : B ≤ w.heap.size) :
    Calls Tryd.prog 42 #[.slice A n c] w (RetRow w 5 1 n xs) := by
  have heq := fun W => Lib.run_eql_slice_nil (P := Tryd.prog) W 25 5 A n c 0 0 Tryd.underlying25
  cases A with
  | none =>
    obtain ⟨rfl, rfl⟩ := hr.none_
    go_enter Tryd.func42, Tryd.ntmps42
    go_wp2_with fail
    go_ret
    exact ⟨_, rfl, World.ownsRow_nil _ _ _ _, Below.refl _ _⟩
  | some ad =>
    have hlit := own_lit w (base := w.heap.size) 5 1 0 #[] (Nat.le_refl _) (by decide) rfl
    have hr' := hr.alloc hB (.cells #[] 5)
    go_enter Tryd.func42, Tryd.ntmps42
    go_wp2_with (at_builtin; refine wpList_app _ tyBytes rfl _ _ rfl w.heap.size _ 0 [] rfl hlit B (some ad) _ c _ rfl hr' h1 (by omega) (by simp) ?_; intro v2 w2 hown2 hg2 _; simp only [Nat.zero_add, List.nil_append] at hown2; have hb2 := below_app ((Below.refl w.heap.size w).alloc (Nat.le_refl _) (.cells #[] 5)) (Nat.le_refl _) hlit hg2 (by simp))
    go_ret
    exact ⟨v2, rfl, hown2, hb2⟩

/-- the sum's four bytes, the lowest first -/
def le4 (c : Crc.W) : List UInt8 := [UInt8.ofNat c.toNat, UInt8.ofNat (c.toNat / 256), UInt8.ofNat (c.toNat / 65536), UInt8.ofNat (c.toNat / 16777216)]
def seal_ (l : List UInt8) : List UInt8 := l ++ le4 (Crc.crc l)

theorem crcSeal (w : World) (n c : Nat) (A : Option Addr) (l : List UInt8) (hr : Rd w w.heap.size 1 A n c (bytesV l)) (ht : Table w) (hl : l.length ≤ 1000000) :
    Calls Tryd.prog 23 #[.slice A n c] w (RetBytes w (seal_ l)) := by
  obtain rfl : n = l.length := by have := hr.len; rw [bytesV_length] at this; omega
  have HT := hide ht
  clear ht
  go_enter Tryd.func23, Tryd.ntmps23
  go_wp2_with fail
  refine (crcOf w _ _ c A l hr HT.out).mono ?_
  rintro e w1 ⟨rfl, rfl⟩
  go_wp2_with fail
  refine (cloneBytes w _ _ c A _ hr (bytesV_one _) (by omega) (Nat.le_refl _)).mono ?_
  rintro e w2 ⟨v2, rfl, hown2, hb2⟩
  have hq := word_lt (Crc.crc l)
  have hlen := hown2.1
  go_wp2_with (at_builtin; refine wpList_app _ tyBytes rfl _ _ rfl w.heap.size v2 _ _ rfl (hown2.alloc _) (w2.heap.size + 1) _ 4 4 _ rfl (Rd.lit w2 5 _ rfl (by decide)) ?h1 ?h2 ?h3 ?_)
  case h1 => exact ⟨rfl, rfl, rfl, rfl⟩
  case h2 => omega
  case h3 => have := hb2.size; simp; omega
  intro v3 w3 hown3 hg3 _
  have hb3 := below_app (hb2.alloc hb2.size _) (Nat.le_refl _) (hown2.alloc _) hg3 (by have := hb2.size; simp; omega)
  have e4 : bytesV l ++ #[Value.int .u8 (((Crc.crc l).toNat : Int) % 256), .int .u8 (((Crc.crc l).toNat : Int) / 256 % 256), .int .u8 (((Crc.crc l).toNat : Int) / 65536 % 256), .int .u8 (((Crc.crc l).toNat : Int) / 16777216)].toList = bytesV (seal_ l) := by
    unfold seal_ le4
    rw [bytesV_append]
    congr 1
    simp only [bytesV, List.map_cons, List.map_nil, byteV, UInt8.toNat_ofNat', List.cons.injEq, and_true, Value.int.injEq, true_and]
    refine ⟨by omega, by omega, by omega, by omega⟩
  rw [e4] at hown3
  clear hg3 hown2 e4
  go_wp2
  go_ret
  exact ⟨v3, rfl, by simpa [seal_, le4] using hown3, hb3⟩

set_option maxRecDepth 100000 in
theorem equalBytes (w : World) (B n c m d : Nat) (A A' : Option Addr) (la lb : List UInt8) (ha : Rd w B 1 A n c (bytesV la)) (hb : Rd w B 1 A' m d (bytesV lb)) (hB : B ≤ w.heap.size) :
    Calls Tryd.prog 34 #[.slice A n c, .slice A' m d] w (RetVal w (.bool (la == lb))) := by
  obtain rfl : n = la.length := by have := ha.len; rw [bytesV_length] at this; omega
  obtain rfl : m = lb.length := by have := hb.len; rw [bytesV_length] at this; omega
  have hmax : la.length ≤ 9223372036854775807 := by have h1 := ha.le; have h2 := ha.cap; unfold maxLen at h2; omega
  by_cases hlen : la.length = lb.length
  · have t1 : ((la.length : Int) == (lb.length : Int)) = true := by simp; omega
    have t1' : ((la.length : Int) != (lb.length : Int)) = false := by simp; omega
    have HL := hide hlen
    clear hlen
    go_enter Tryd.func34, Tryd.ntmps34
    go_wp2_with fail
    go_loopw [13] (fun iv wr => ∃ k : Nat, k ≤ la.length ∧ iv = .int .i64 k ∧ Hid (la.take k = lb.take k) ∧ Below w.heap.size w wr) (fun iv _ => la.length - (intOf iv).toNat)
    case atStart => exact ⟨0, Nat.zero_le _, rfl, hide rfl, Below.refl _ _⟩
    case round =>
      obtain ⟨k, hk, rfl, hpre, hbr⟩ := hrel
      by_cases hlt : k < la.length
      · have hlt2 : k < lb.length := by have := HL.out; omega
        obtain ⟨b1, o1, rfl, q1, c1⟩ := ha.cellAt (k := k) (by rw [bytesV_length]; exact hlt)
        obtain ⟨b2, o2, rfl, q2, c2⟩ := hb.cellAt (k := k) (by rw [bytesV_length]; exact hlt2)
        obtain ⟨x, hx⟩ : ∃ x : UInt8, x = la[k] := ⟨_, rfl⟩
        obtain ⟨y, hy⟩ : ∃ y : UInt8, y = lb[k] := ⟨_, rfl⟩
        have c1' : wr.cell? ⟨b1, o1 + k, none⟩ = some (.int .u8 (x.toNat : Int)) := (hbr.cell (p := ⟨b1, o1 + k, none⟩) (Nat.lt_of_lt_of_le q1 hB)).trans (by rw [c1, hx]; simp [bytesV, byteV])
        have c2' : wr.cell? ⟨b2, o2 + k, none⟩ = some (.int .u8 (y.toNat : Int)) := (hbr.cell (p := ⟨b2, o2 + k, none⟩) (Nat.lt_of_lt_of_le q2 hB)).trans (by rw [c2, hy]; simp [bytesV, byteV])
        have z1 : b1 < wr.heap.size := Nat.lt_of_lt_of_le (Nat.lt_of_lt_of_le q1 hB) hbr.size
        have z2 : b2 < wr.heap.size := Nat.lt_of_lt_of_le (Nat.lt_of_lt_of_le q2 hB) hbr.size
        have HX := hide hx
        have HY := hide hy
        clear c1 c2 hx hy
        by_cases hxy : x = y
        · have t2 : ((x.toNat : Int) != (y.toNat : Int)) = false := by rw [hxy]; simp
          have hpre' := hide (show la.take (k + 1) = lb.take (k + 1) by rw [List.take_succ_eq_append_getElem hlt, List.take_succ_eq_append_getElem hlt2, hpre.out, ← HX.out, ← HY.out, hxy])
          clear hxy
          go_wp2_with fail
          refine wp_region_abs ext_grow (by kernel_rfl) (by kernel_rfl) ?_
          simp only [List.map_cons, List.map_nil]
          refine wpA_value ext_grow ?_ (fun _ _ h => by cases h) rfl rfl ?_ ?_
          rotate_left 1
          · intro w' hw' C hC
            go_simp
            try go_bits
            exact hC
          simp only [putS, List.set_cons_succ, List.set_cons_zero]
          refine wpA_value ext_grow ?_ (fun _ _ h => by cases h) rfl rfl ?_ ?_
          rotate_left 1
          · intro w' hw' C hC
            go_simp
            try go_bits
            exact hC
          simp only [putS, List.set_cons_succ, List.set_cons_zero]
          refine wpA_value ext_grow ?_ (fun _ _ h => by cases h) rfl rfl ?_ ?_
          rotate_left 1
          · intro w' hw' C hC
            go_simp
            try go_bits
            exact hC
          simp only [putS, List.set_cons_succ, List.set_cons_zero]
          refine wpA_value ext_grow ?_ (fun _ _ h => by cases h) rfl rfl ?_ ?_
          rotate_left 1
          · intro w' hw' C hC
            have hcw := (hw'.cell (p := ⟨b1, o1 + k, none⟩) z1).trans c1'
            go_simp
            try go_bits
            exact hC
          simp only [putS, List.set_cons_succ, List.set_cons_zero]
          refine wpA_value ext_grow ?_ (fun _ _ h => by cases h) rfl rfl ?_ ?_
          rotate_left 1
          · intro w' hw' C hC
            go_simp
            try go_bits
            exact hC
          simp only [putS, List.set_cons_succ, List.set_cons_zero]
          refine wpA_value ext_grow ?_ (fun _ _ h => by cases h) rfl rfl ?_ ?_
          rotate_left 1
          · intro w' hw' C hC
            go_simp
            try go_bits
            exact hC
          simp only [putS, List.set_cons_succ, List.set_cons_zero]
          refine wpA_value ext_grow ?_ (fun _ _ h => by cases h) rfl rfl ?_ ?_
          rotate_left 1
          · intro w' hw' C hC
            go_simp
            try go_bits
            exact hC
          simp only [putS, List.set_cons_succ, List.set_cons_zero]
          refine wpA_value ext_grow ?_ (fun _ _ h => by cases h) rfl rfl ?_ ?_
          rotate_left 1
          · intro w' hw' C hC
            have hcw := (hw'.cell (p := ⟨b2, o2 + k, none⟩) z2).trans c2'
            go_simp
            try go_bits
            exact hC
          simp only [putS, List.set_cons_succ, List.set_cons_zero]
          refine wpA_value ext_grow ?_ (fun _ _ h => by cases h) rfl rfl ?_ ?_
          rotate_left 1
          · intro w' hw' C hC
            go_simp
            try go_bits
            exact hC
          simp only [putS, List.set_cons_succ, List.set_cons_zero]
          intro w' hw'
          simp only [openS]
          go_wp2
          go_roundw
          case rel => exact ⟨k + 1, by omega, by go_num, hpre', hbr.trans ((below_of_drew hw').mono hbr.size)⟩
          case measure => simp [intOf]; omega
        · have t2 : ((x.toNat : Int) != (y.toNat : Int)) = true := by simp; intro h; exact hxy (UInt8.toNat_inj.1 (by omega))
          have hne := hide (show (la == lb) = false from beq_eq_false_iff_ne.2 fun h => hxy (by rw [HX.out, HY.out]; simp only [h]))
          clear hxy
          go_wp2_with fail
          refine wp_region_abs ext_grow (by kernel_rfl) (by kernel_rfl) ?_
          simp only [List.map_cons, List.map_nil]
          refine wpA_value ext_grow ?_ (fun _ _ h => by cases h) rfl rfl ?_ ?_
          rotate_left 1
          · intro w' hw' C hC
            go_simp
            try go_bits
            exact hC
          simp only [putS, List.set_cons_succ, List.set_cons_zero]
          refine wpA_value ext_grow ?_ (fun _ _ h => by cases h) rfl rfl ?_ ?_
          rotate_left 1
          · intro w' hw' C hC
            go_simp
            try go_bits
            exact hC
          simp only [putS, List.set_cons_succ, List.set_cons_zero]
          refine wpA_value ext_grow ?_ (fun _ _ h => by cases h) rfl rfl ?_ ?_
          rotate_left 1
          · intro w' hw' C hC
            go_simp
            try go_bits
            exact hC
          simp only [putS, List.set_cons_succ, List.set_cons_zero]
          refine wpA_value ext_grow ?_ (fun _ _ h => by cases h) rfl rfl ?_ ?_
          rotate_left 1
          · intro w' hw' C hC
            have hcw := (hw'.cell (p := ⟨b1, o1 + k, none⟩) z1).trans c1'
            go_simp
            try go_bits
            exact hC
          simp only [putS, List.set_cons_succ, List.set_cons_zero]
          refine wpA_value ext_grow ?_ (fun _ _ h => by cases h) rfl rfl ?_ ?_
          rotate_left 1
          · intro w' hw' C hC
            go_simp
            try go_bits
            exact hC
          simp only [putS, List.set_cons_succ, List.set_cons_zero]
          refine wpA_value ext_grow ?_ (fun _ _ h => by cases h) rfl rfl ?_ ?_
          rotate_left 1
          · intro w' hw' C hC
            go_simp
            try go_bits
            exact hC
          simp only [putS, List.set_cons_succ, List.set_cons_zero]
          refine wpA_value ext_grow ?_ (fun _ _ h => by cases h) rfl rfl ?_ ?_
          rotate_left 1
          · intro w' hw' C hC
            go_simp
            try go_bits
            exact hC
          simp only [putS, List.set_cons_succ, List.set_cons_zero]
          refine wpA_value ext_grow ?_ (fun _ _ h => by cases h) rfl rfl ?_ ?_
          rotate_left 1
          · intro w' hw' C hC
            have hcw := (hw'.cell (p := ⟨b2, o2 + k, none⟩) z2).trans c2'
            go_simp
            try go_bits
            exact hC
          simp only [putS, List.set_cons_succ, List.set_cons_zero]
          refine wpA_value ext_grow ?_ (fun _ _ h => by cases h) rfl rfl ?_ ?_
          rotate_left 1
          · intro w' hw' C hC
            go_simp
            try go_bits
            exact hC
          simp only [putS, List.set_cons_succ, List.set_cons_zero]
          intro w' hw'
          simp only [openS]
          go_wp2
          go_ret
          exact ⟨by rw [hne.out]; rfl, hbr.trans ((below_of_drew hw').mono hbr.size)⟩
      · have heq := hide (show (la == lb) = true from beq_iff_eq.2 (by have h1 := hpre.out; have h2 := HL.out; rw [List.take_of_length_le (by omega), List.take_of_length_le (by omega)] at h1; exact h1))
        go_wp2_with fail
        go_ret
        exact ⟨by rw [heq.out]; rfl, hbr⟩
  · have t1 : ((la.length : Int) != (lb.length : Int)) = true := by simp; omega
    have hne := hide (show (la == lb) = false from beq_eq_false_iff_ne.2 fun h => hlen (by rw [h]))
    clear hlen
    go_enter Tryd.func34, Tryd.ntmps34
    go_wp2_with fail
    go_ret
    exact ⟨by rw [hne.out]; rfl, Below.refl _ _⟩
end

section
open Go.RowKit

def open_ (l : List UInt8) : Option (List UInt8) := if 4 ≤ l.length ∧ seal_ (l.take (l.length - 4)) = l then some (l.take (l.length - 4)) else none
theorem seal_length (l : List UInt8) : (seal_ l).length = l.length + 4 := by simp [seal_, le4]
theorem open_seal (l : List UInt8) : open_ (seal_ l) = some l := by
  have h1 := seal_length l
  have h2 : (seal_ l).take ((seal_ l).length - 4) = l := by rw [h1, Nat.add_sub_cancel]; unfold seal_; exact List.take_left
  unfold open_
  rw [h2, if_pos ⟨by omega, rfl⟩]
def RetOpen (w : World) (l : List UInt8) (e : Ending) (w' : World) : Prop :=
  (∃ t v, open_ l = some t ∧ e = .returned (.tuple #[v, .bool true]) ∧ w'.ownsRow w.heap.size 5 1 v t.length (bytesV t) ∧ Below w.heap.size w w') ∨
  (open_ l = none ∧ e = .returned (.tuple #[.slice none 0 0, .bool false]) ∧ Below w.heap.size w w')

set_option maxRecDepth 100000 in
theorem crcOpen (w : World) (n c : Nat) (A : Option Addr) (l : List UInt8) (hr : Rd w w.heap.size 1 A n c (bytesV l)) (ht : Table w) (hl : l.length ≤ 1000000) :
    Calls Tryd.prog 31 #[.slice A n c] w (RetOpen w l) := by
  obtain rfl : n = l.length := by have := hr.len; rw [bytesV_length] at this; omega
  have HT := hide ht
  have hpos := ht.pos
  clear ht
  by_cases h4 : 4 ≤ l.length
  · obtain ⟨m, hm⟩ : ∃ m, m = l.length - 4 := ⟨_, rfl⟩
    have hm' : (l.length : Int) - 4 = (m : Int) := by omega
    have hle := hr.le
    have hsl := cut_hi tyBytes A l.length c .i64 (m : Int) m rfl (by omega)
    have hrm : Rd w w.heap.size 1 A m c (bytesV (l.take m)) := by have := hr.pre (hi := m) (by omega); simpa [bytesV, List.map_take] using this
    have hml : (l.take m).length = m := by rw [List.length_take]; omega
    have HM := hide hm
    have hm1 : m ≤ 1000000 := by omega
    clear hm
    go_enter Tryd.func31, Tryd.ntmps31
    go_wp2_with fail
    refine (cloneBytes w _ _ c A _ hrm (bytesV_one _) (by omega) (Nat.le_refl _)).mono ?_
    rintro e w1 ⟨v1, rfl, hown1, hb1⟩
    obtain ⟨A1, c1, rfl, hr1⟩ := Rd.of_own hown1
    clear hm'
    go_wp2_with fail
    refine (crcSeal w1 _ c1 A1 _ hr1 (HT.out.below hb1 hpos) (by omega)).mono ?_
    rintro e w2 ⟨v2, rfl, hown2, hb2⟩
    have hb2' := below_call hb1 hb1.size hb2
    obtain ⟨A2, c2, rfl, hr2⟩ := Rd.of_own hown2
    go_wp2_with fail
    refine (equalBytes w2 w2.heap.size _ _ _ _ A2 A _ l hr2 ((hr.below hb2').more hb2'.size) (Nat.le_refl _)).mono ?_
    rintro e w3 ⟨rfl, hb3⟩
    have hb3' := below_call hb2' hb2'.size hb3
    have hown3 := own_below (own_below hown1 hb2) hb3
    by_cases heq : seal_ (l.take m) = l
    · have t1 : (seal_ (l.take m) == l) = true := beq_iff_eq.2 heq
      have ho : open_ l = some (l.take m) := by unfold open_; rw [← HM.out, if_pos ⟨h4, heq⟩]
      have HO := hide ho
      rw [t1]
      clear heq ho t1 hown1 hown2 hr1 hr2
      go_wp2_with fail
      go_ret2
      exact .inl ⟨_, _, HO.out, rfl, by rw [hml]; exact hown3, hb3'⟩
    · have t1 : (seal_ (l.take m) == l) = false := beq_eq_false_iff_ne.2 heq
      have ho : open_ l = none := by unfold open_; rw [← HM.out, if_neg (fun h => heq h.2)]
      have HO := hide ho
      rw [t1]
      clear heq ho t1 hown1 hown2 hr1 hr2
      go_wp2_with fail
      go_ret2
      exact .inr ⟨HO.out, rfl, hb3'⟩
  · have ho : open_ l = none := by unfold open_; rw [if_neg (fun h => h4 h.1)]
    have HO := hide ho
    have t0 : decide ((l.length : Int) < 4) = true := by simp; omega
    clear h4 ho
    go_enter Tryd.func31, Tryd.ntmps31
    go_wp2_with fail
    go_ret2
    exact .inr ⟨HO.out, rfl, Below.refl _ _⟩

/-- eight rounds of the reference -/
theorem ref_bit (a : Crc.W) : ∃ L S : Nat, L < 2 ∧ S < 4294967296 ∧ bits BinOp.and .u32 (a.toNat : Int) 1 = (L : Int) ∧ (a.toNat : Int) / 2 = (S : Int) ∧
    (L = 1 → bits BinOp.xor .u32 (S : Int) 3988292384 = ((Crc.bit a).toNat : Int)) ∧ (L = 0 → S = (Crc.bit a).toNat) := by
  have ha := word_lt a
  have hs : a.toNat / 2 = (a >>> 1).toNat := by rw [BitVec.toNat_ushiftRight, Nat.shiftRight_eq_div_pow]
  have hl : a.getLsbD 0 = decide (a.toNat % 2 = 1) := by rw [BitVec.getLsbD, Nat.testBit_zero]
  refine ⟨a.toNat % 2, a.toNat / 2, by omega, by omega, ?_, by omega, fun h1 => ?_, fun h0 => ?_⟩
  · have h := u32_and_nat a.toNat 1 ha (by omega)
    rw [nat_mask1] at h
    exact h
  · unfold Crc.bit
    rw [hl, hs]
    simp only [h1, decide_true, if_true]
    exact word_xor (a >>> 1) Crc.poly
  · unfold Crc.bit
    rw [hl, hs]
    simp [h0]

set_option maxRecDepth 100000 in
theorem refMore (w : World) (c0 : Crc.W) (B n c : Nat) (A : Option Addr) (l : List UInt8) (hr : Rd w B 1 A n c (bytesV l)) :
    Calls Tryd.prog 36 #[.int .u32 (c0.toNat : Int), .slice A n c] w fun e w' => e = .returned (.int .u32 ((Crc.more c0 l).toNat : Int)) ∧ w = w' := by
  obtain rfl : n = l.length := by have := hr.len; rw [bytesV_length] at this; omega
  have hmax : l.length ≤ 9223372036854775807 := by have h1 := hr.le; have h2 := hr.cap; unfold maxLen at h2; omega
  have hn0 : bits BinOp.xor .u32 (c0.toNat : Int) 4294967295 = ((~~~ c0).toNat : Int) := by
    have h := word_xor c0 (BitVec.allOnes 32)
    rw [BitVec.xor_allOnes] at h
    exact h
  obtain ⟨N0, hN0⟩ : ∃ N : Nat, N = (~~~ c0).toNat := ⟨_, rfl⟩
  rw [← hN0] at hn0
  have HN0 := hide hN0
  clear hN0
  go_enter Tryd.func36, Tryd.ntmps36
  go_wp2
  clear hn0
  go_loop [0, 5] (fun cv iv => ∃ (k C : Nat), k ≤ l.length ∧ iv = .int .i64 k ∧ cv = .int .u32 C ∧ Hid (C = (Crc.raw (~~~ c0) (l.take k)).toNat)) (fun _ iv => l.length - (intOf iv).toNat)
  case atStart => exact ⟨0, N0, Nat.zero_le _, rfl, rfl, hide HN0.out⟩
  case round =>
    obtain ⟨k, C, hk, rfl, rfl, hC⟩ := hrel
    by_cases hlt : k < l.length
    · obtain ⟨b, off, rfl, _, hc⟩ := hr.cellAt (k := k) (by rw [bytesV_length]; exact hlt)
      obtain ⟨x, hx⟩ : ∃ x : UInt8, x = l[k] := ⟨_, rfl⟩
      have hc' : w.cell? ⟨b, off + k, none⟩ = some (.int .u8 (x.toNat : Int)) := by rw [hc, hx]; simp [bytesV, byteV]
      have hst : Crc.raw (~~~ c0) (l.take (k + 1)) = Crc.byteS (Crc.raw (~~~ c0) (l.take k)) x := by
        rw [List.take_succ_eq_append_getElem hlt, Crc.raw_append, ← hx]; rfl
      have e1 := word_byte (Crc.raw (~~~ c0) (l.take k)) x
      obtain ⟨S, hS⟩ : ∃ S : Crc.W, S = Crc.raw (~~~ c0) (l.take k) ^^^ BitVec.ofNat 32 x.toNat := ⟨_, rfl⟩
      rw [← hC.out, ← hS] at e1
      have hst2 : Crc.raw (~~~ c0) (l.take (k + 1)) = Crc.bits 8 S := by rw [hst, hS]; rfl
      have HS2 := hide hst2
      obtain ⟨C1, hC1⟩ : ∃ C1 : Nat, C1 = S.toNat := ⟨_, rfl⟩
      rw [← hC1] at e1
      have HC1 := hide hC1
      have hx256 := x.toNat_lt
      clear hc hx hst hS hst2 hC1
      go_wp2
      clear e1
      go_loop [0, 6] (fun cv jv => ∃ (j C2 : Nat), j ≤ 8 ∧ jv = .int .i64 j ∧ cv = .int .u32 C2 ∧ Hid (C2 = (Crc.bits j S).toNat)) (fun _ jv => 8 - (intOf jv).toNat)
      case atStart => exact ⟨0, C1, by omega, rfl, rfl, hide HC1.out⟩
      case round =>
        obtain ⟨j, C2, hj, rfl, rfl, hC2⟩ := hrel
        by_cases hj8 : j < 8
        · have hs1 : Crc.bits (j + 1) S = Crc.bit (Crc.bits j S) := Crc.bits_add j 1 S
          obtain ⟨L, S2, g1, g2, g3, g4, g5, g6⟩ := ref_bit (Crc.bits j S)
          rw [← hs1] at g5 g6
          rw [← hC2.out] at g3 g4
          rcases (show L = 0 ∨ L = 1 by omega) with h0 | h0
          · have g7 := hide (g6 h0)
            have t1 : ((L : Int) == 1) = false := by rw [h0]; rfl
            clear g5 g6 hs1 h0
            go_wp2
            go_round
            case rel => exact ⟨j + 1, S2, by omega, by go_num, rfl, g7⟩
            case measure => simp [intOf]; omega
          · have g7 := g5 h0
            obtain ⟨C4, hC4⟩ : ∃ C4 : Nat, C4 = (Crc.bits (j + 1) S).toNat := ⟨_, rfl⟩
            rw [← hC4] at g7
            have HC4 := hide hC4
            have t1 : ((L : Int) == 1) = true := by rw [h0]; rfl
            clear g5 g6 hs1 h0 hC4
            go_wp2
            go_round
            case rel => exact ⟨j + 1, C4, by omega, by go_num, rfl, HC4⟩
            case measure => simp [intOf]; omega
        · obtain rfl : j = 8 := by omega
          go_wp2
          go_round
          case rel => exact ⟨k + 1, C2, by omega, by go_num, rfl, hide (by rw [HS2.out]; exact hC2.out)⟩
          case measure => simp [intOf]; omega
    · obtain rfl : k = l.length := by omega
      have hfin : bits BinOp.xor .u32 ((Crc.raw (~~~ c0) l).toNat : Int) 4294967295 = ((~~~ (Crc.raw (~~~ c0) l)).toNat : Int) := by
        have h := word_xor (Crc.raw (~~~ c0) l) (BitVec.allOnes 32)
        rw [BitVec.xor_allOnes] at h
        exact h
      have hC' := hC.out
      rw [List.take_length] at hC'
      rw [← hC'] at hfin
      have HF := hide hfin
      clear hfin hC'
      go_wp2
      go_ret
      refine ⟨?_, rfl⟩
      show Ending.returned (.int .u32 (bits BinOp.xor .u32 (C : Int) 4294967295)) = _
      rw [HF.out]
      rfl
end

section
open Go.RowKit

/-- the first k bytes of C, the lowest first -/
def leN (C : Nat) : Nat → List UInt8
  | 0 => []
  | k + 1 => leN C k ++ [UInt8.ofNat (C / 256 ^ k)]
theorem leN_length (C : Nat) : ∀ k, (leN C k).length = k
  | 0 => rfl
  | k + 1 => by simp [leN, leN_length C k]
theorem leN_four (c : Crc.W) : leN c.toNat 4 = le4 c := by simp [leN, le4]

set_option maxRecDepth 100000 in
theorem refSeal (w : World) (B n c : Nat) (A : Option Addr) (l : List UInt8) (hr : Rd w B 1 A n c (bytesV l)) (hB : B ≤ w.heap.size) (hl : l.length ≤ 1000000) :
    Calls Tryd.prog 17 #[.slice A n c] w (RetBytes w (seal_ l)) := by
  obtain rfl : n = l.length := by have := hr.len; rw [bytesV_length] at this; omega
  have hr := hr.more hB
  clear hB
  go_enter Tryd.func17, Tryd.ntmps17
  go_wp2_with (at_builtin; refine wpList_app _ tyBytes rfl _ _ rfl w.heap.size _ 0 [] rfl (World.ownsRow_nil _ _ _ _) w.heap.size A _ c _ rfl hr (bytesV_one _) (by omega) (Nat.le_refl _) ?_; intro v2 w2 hown2 hg2 _; simp only [Nat.zero_add, List.nil_append] at hown2; have hb2 := below_app (Below.refl w.heap.size w) (Nat.le_refl _) (World.ownsRow_nil w w.heap.size 5 1) hg2 (Nat.le_refl _))
  go_wp2_with fail
  refine (refMore w2 0 _ _ _ A l ((hr.below hb2).more hb2.size)).mono ?_
  rintro e w3 ⟨rfl, rfl⟩
  obtain ⟨C, hC⟩ : ∃ C : Nat, C = (Crc.more 0 l).toNat := ⟨_, rfl⟩
  have hq : C < 4294967296 := by rw [hC]; exact word_lt _
  rw [← hC]
  have HC := hide hC
  have HQ := hide hq
  clear hC hg2 hq
  go_wp2_with fail
  go_loopw [3, 4, 5] (fun bv sv iv wr => ∃ k : Nat, k ≤ 4 ∧ iv = .int .i64 k ∧ sv = .int .u32 ((C / 256 ^ k : Nat) : Int) ∧ wr.ownsRow w.heap.size 5 1 bv (l ++ leN C k).length (bytesV (l ++ leN C k)) ∧ Below w.heap.size w wr) (fun _ _ iv _ => 4 - (intOf iv).toNat)
  case atStart => exact ⟨0, Nat.zero_le _, rfl, by simp, by simpa [leN] using hown2, hb2⟩
  case round =>
    obtain ⟨k, hk, rfl, rfl, hown, hbr⟩ := hrel
    by_cases hlt : k < 4
    · obtain ⟨D, hD⟩ : ∃ D : Nat, D = C / 256 ^ k := ⟨_, rfl⟩
      have hD2 : C / 256 ^ (k + 1) = D / 256 := by rw [Nat.pow_succ, ← Nat.div_div_eq_div_mul, ← hD]
      have hD3 : D < 4294967296 := by rw [hD]; exact Nat.lt_of_le_of_lt (Nat.div_le_self _ _) HQ.out
      have hst := hide (show l ++ leN C (k + 1) = (l ++ leN C k) ++ [UInt8.ofNat D] by rw [leN, ← hD, List.append_assoc])
      obtain ⟨L, hL⟩ : ∃ L, L = l ++ leN C k := ⟨_, rfl⟩
      have hlen : L.length = l.length + k := by rw [hL, List.length_append, leN_length]
      rw [← hL] at hst hown
      rw [← hD]
      have HD := hide hD2
      clear hD hD2 hL
      go_wp2_with (at_builtin; refine wpList_app _ tyBytes rfl _ _ rfl w.heap.size _ _ _ rfl (hown.alloc _) (wr.heap.size + 1) _ 1 1 _ rfl (Rd.lit wr 5 _ rfl (by decide)) ?h1 ?h2 ?h3 ?_)
      case h1 => rfl
      case h2 => omega
      case h3 => have := hbr.size; simp; omega
      intro v3 w3 hown3 hg3 _
      have hb3 := below_app (hbr.alloc hbr.size _) (Nat.le_refl _) (hown.alloc _) hg3 (by have := hbr.size; simp; omega)
      have e1 : bytesV L ++ #[Value.int .u8 ((D : Int) % 256)].toList = bytesV (L ++ [UInt8.ofNat D]) := by
        rw [bytesV_append]
        congr 1
      rw [e1] at hown3
      clear hg3 hown e1
      go_wp2_with fail
      go_roundw
      case rel => exact ⟨k + 1, by omega, by go_num, by rw [HD.out]; go_num, by rw [hst.out, List.length_append, hlen]; exact hown3, hb3⟩
      case measure => simp [intOf]; omega
    · obtain rfl : k = 4 := by omega
      go_wp2_with fail
      go_ret
      have e2 : l ++ leN C 4 = seal_ l := by rw [HC.out, leN_four]; rfl
      rw [e2] at hown
      exact ⟨_, rfl, hown, hbr⟩


set_option maxRecDepth 100000 in
theorem refOpen (w : World) (n c : Nat) (A : Option Addr) (l : List UInt8) (hr : Rd w w.heap.size 1 A n c (bytesV l)) (hl : l.length ≤ 1000000) :
    Calls Tryd.prog 18 #[.slice A n c] w fun e w' => Below w.heap.size w w' ∧
      ((∃ t, open_ l = some t ∧ e = .returned (.tuple #[.slice A t.length c, .bool true]) ∧ Rd w w.heap.size 1 A t.length c (bytesV t)) ∨
       (open_ l = none ∧ e = .returned (.tuple #[.slice none 0 0, .bool false]))) := by
  obtain rfl : n = l.length := by have := hr.len; rw [bytesV_length] at this; omega
  have hpos := hr.le
  by_cases h4 : 4 ≤ l.length
  · obtain ⟨m, hm⟩ : ∃ m, m = l.length - 4 := ⟨_, rfl⟩
    have hm' : IntKind.i64.wrap ((l.length : Int) - 4) = (m : Int) := by rw [IntWalk.i64_in _ ⟨by omega, by omega⟩]; omega
    have hm'' : (l.length : Int) - 4 = (m : Int) := by omega
    have t0 : decide ((l.length : Int) < 4) = false := by simp; omega
    have hle := hr.le
    have hsl := cut_hi (P := Tryd.prog) tyBytes A l.length c .i64 (m : Int) m rfl (by omega)
    have hrm : Rd w w.heap.size 1 A m c (bytesV (l.take m)) := by have := hr.pre (hi := m) (by omega); simpa [bytesV, List.map_take] using this
    have hml : (l.take m).length = m := by rw [List.length_take]; omega
    have HM := hide hm
    have HH4 := hide h4
    have hm1 : m ≤ 1000000 := by omega
    clear hm h4
    go_enter Tryd.func18, Tryd.ntmps18
    go_wp2_with fail
    refine wp_region_abs ext_grow (by kernel_rfl) (by kernel_rfl) ?_
    simp only [List.map_cons, List.map_nil]
    refine wpA_value ext_grow ?_ (fun _ _ h => by cases h) rfl rfl ?_ ?_
    rotate_left 1
    · intro w' hw' C hC
      go_simp
      try go_bits
      exact hC
    simp only [putS, List.set_cons_succ, List.set_cons_zero]
    refine wpA_value ext_grow ?_ (fun _ _ h => by cases h) rfl rfl ?_ ?_
    rotate_left 1
    · intro w' hw' C hC
      go_simp
      try go_bits
      exact hC
    simp only [putS, List.set_cons_succ, List.set_cons_zero]
    refine wpA_value ext_grow ?_ (fun _ _ h => by cases h) rfl rfl ?_ ?_
    rotate_left 1
    · intro w' hw' C hC
      go_simp
      try go_bits
      exact hC
    simp only [putS, List.set_cons_succ, List.set_cons_zero]
    refine wpA_value ext_grow ?_ (fun _ _ h => by cases h) rfl rfl ?_ ?_
    rotate_left 1
    · intro w' hw' C hC
      go_simp
      try go_bits
      exact hC
    simp only [putS, List.set_cons_succ, List.set_cons_zero]
    refine wpA_value ext_grow ?_ (fun _ _ h => by cases h) rfl rfl ?_ ?_
    rotate_left 1
    · intro w' hw' C hC
      go_simp
      try go_bits
      exact hC
    simp only [putS, List.set_cons_succ, List.set_cons_zero]
    refine wpA_value ext_grow ?_ (fun _ _ h => by cases h) rfl rfl ?_ ?_
    rotate_left 1
    · intro w' hw' C hC
      go_simp
      try go_bits
      exact hC
    simp only [putS, List.set_cons_succ, List.set_cons_zero]
    refine wpA_value ext_grow ?_ (fun _ _ h => by cases h) rfl rfl ?_ ?_
    rotate_left 1
    · intro w' hw' C hC
      go_simp
      try go_bits
      exact hC
    simp only [putS, List.set_cons_succ, List.set_cons_zero]
    refine wpA_value ext_grow ?_ (fun _ _ h => by cases h) rfl rfl ?_ ?_
    rotate_left 1
    · intro w' hw' C hC
      go_simp
      try go_bits
      exact hC
    simp only [putS, List.set_cons_succ, List.set_cons_zero]
    refine wpA_value ext_grow ?_ (fun _ _ h => by cases h) rfl rfl ?_ ?_
    rotate_left 1
    · intro w' hw' C hC
      go_simp
      try go_bits
      exact hC
    simp only [putS, List.set_cons_succ, List.set_cons_zero]
    refine wpA_known (Slot.has (BytesR (seal_ (l.take m)))) (fun _ _ h => by cases h) rfl rfl (mono_bytes _) (fun w' hw' => ?_) ?_
    · go_simp
      exact ⟨Below.refl _ _, (refSeal _ w.heap.size _ c A (l.take m) (hrm.below' (below_of_drew hw') (Nat.le_refl _)) (below_of_drew hw').size (by omega)).mono fun e w'' h => by obtain ⟨v, h1, h2, h3⟩ := h; exact bytes_ret h1 h2 h3⟩
    simp only [putS, List.set_cons_succ, List.set_cons_zero]
    refine wpA_str 13 (_) Tryd.underlying25 Tryd.underlying5 Tryd.underlying9 rfl rfl (by simp) rfl rfl (fun _ => rfl) ?_
    simp only [putS, List.set_cons_succ, List.set_cons_zero]
    refine wpA_value ext_grow ?_ (fun _ _ h => by cases h) rfl rfl ?_ ?_
    rotate_left 1
    · intro w' hw' C hC
      go_simp
      try go_bits
      exact hC
    simp only [putS, List.set_cons_succ, List.set_cons_zero]
    refine wpA_value ext_grow ?_ (fun _ _ h => by cases h) rfl rfl ?_ ?_
    rotate_left 1
    · intro w' hw' C hC
      have hcv := run_str (P := Tryd.prog) w' Tryd.underlying25 Tryd.underlying5 Tryd.underlying9 (hr.below' (below_of_drew hw') (Nat.le_refl _))
      go_simp
      exact hC
    simp only [putS, List.set_cons_succ, List.set_cons_zero]
    refine wpA_value ext_grow ?_ (fun _ _ h => by cases h) rfl rfl ?_ ?_
    rotate_left 1
    · intro w' hw' C hC
      go_simp
      try go_bits
      exact hC
    simp only [putS, List.set_cons_succ, List.set_cons_zero]
    refine wpA_value ext_grow ?_ (fun _ _ h => by cases h) rfl rfl ?_ ?_
    rotate_left 1
    · intro w' hw' C hC
      go_simp
      try go_bits
      exact hC
    simp only [putS, List.set_cons_succ, List.set_cons_zero]
    intro w' hw'
    simp only [openS]
    intro vv hvv
    clear hm' hvv
    by_cases heq : seal_ (l.take m) = l
    · have t1 : (seal_ (l.take m) == l) = true := beq_iff_eq.2 heq
      have ho : open_ l = some (l.take m) := by unfold open_; rw [← HM.out, if_pos ⟨HH4.out, heq⟩]
      have HO := hide ho
      simp only [t1, Bool.not_true, Bool.not_false]
      clear heq ho t1
      go_wp2
      go_ret2
      exact ⟨below_of_drew hw', .inl ⟨_, HO.out, by rw [hml]; rfl, by rw [hml]; exact hrm⟩⟩
    · have t1 : (seal_ (l.take m) == l) = false := beq_eq_false_iff_ne.2 heq
      have ho : open_ l = none := by unfold open_; rw [← HM.out, if_neg (fun h => heq h.2)]
      have HO := hide ho
      simp only [t1, Bool.not_true, Bool.not_false]
      clear heq ho t1
      go_wp2
      go_ret2
      exact ⟨below_of_drew hw', .inr ⟨HO.out, rfl⟩⟩
  · have ho : open_ l = none := by unfold open_; rw [if_neg (fun h => h4 h.1)]
    have HO := hide ho
    have t0 : decide ((l.length : Int) < 4) = true := by simp; omega
    clear h4 ho
    go_enter Tryd.func18, Tryd.ntmps18
    go_wp2_with fail
    refine wp_region_abs ext_grow (by kernel_rfl) (by kernel_rfl) ?_
    simp only [List.map_cons, List.map_nil]
    refine wpA_value ext_grow ?_ (fun _ _ h => by cases h) rfl rfl ?_ ?_
    rotate_left 1
    · intro w' hw' C hC
      go_simp
      try go_bits
      exact hC
    simp only [putS, List.set_cons_succ, List.set_cons_zero]
    refine wpA_value ext_grow ?_ (fun _ _ h => by cases h) rfl rfl ?_ ?_
    rotate_left 1
    · intro w' hw' C hC
      go_simp
      try go_bits
      exact hC
    simp only [putS, List.set_cons_succ, List.set_cons_zero]
    refine wpA_value ext_grow ?_ (fun _ _ h => by cases h) rfl rfl ?_ ?_
    rotate_left 1
    · intro w' hw' C hC
      go_simp
      try go_bits
      exact hC
    simp only [putS, List.set_cons_succ, List.set_cons_zero]
    refine wpA_value ext_grow ?_ (fun _ _ h => by cases h) rfl rfl ?_ ?_
    rotate_left 1
    · intro w' hw' C hC
      go_simp
      try go_bits
      exact hC
    simp only [putS, List.set_cons_succ, List.set_cons_zero]
    refine wpA_skip rfl rfl ?_
    simp only [putS, List.set_cons_succ, List.set_cons_zero]
    refine wpA_skip rfl rfl ?_
    simp only [putS, List.set_cons_succ, List.set_cons_zero]
    refine wpA_skip rfl rfl ?_
    simp only [putS, List.set_cons_succ, List.set_cons_zero]
    refine wpA_skip rfl rfl ?_
    simp only [putS, List.set_cons_succ, List.set_cons_zero]
    refine wpA_skip rfl rfl ?_
    simp only [putS, List.set_cons_succ, List.set_cons_zero]
    refine wpA_skip rfl rfl ?_
    simp only [putS, List.set_cons_succ, List.set_cons_zero]
    refine wpA_skip rfl rfl ?_
    simp only [putS, List.set_cons_succ, List.set_cons_zero]
    refine wpA_skip rfl rfl ?_
    simp only [putS, List.set_cons_succ, List.set_cons_zero]
    refine wpA_skip rfl rfl ?_
    simp only [putS, List.set_cons_succ, List.set_cons_zero]
    refine wpA_skip rfl rfl ?_
    simp only [putS, List.set_cons_succ, List.set_cons_zero]
    refine wpA_value ext_grow ?_ (fun _ _ h => by cases h) rfl rfl ?_ ?_
    rotate_left 1
    · intro w' hw' C hC
      go_simp
      try go_bits
      exact hC
    simp only [putS, List.set_cons_succ, List.set_cons_zero]
    intro w' hw'
    simp only [openS]
    go_wp2
    go_ret2
    exact ⟨below_of_drew hw', .inr ⟨HO.out, rfl⟩⟩
end

section
open Go.RowKit

theorem retOpen_one {w w' : World} {l : List UInt8} {e : Ending} (h : RetOpen w l e w') :
    Below w.heap.size w w' ∧ ∃ A c, e = .returned (.tuple #[.slice A ((open_ l).getD []).length c, .bool (open_ l).isSome]) ∧ Rd w' w'.heap.size 1 A ((open_ l).getD []).length c (bytesV ((open_ l).getD [])) := by
  rcases h with ⟨t, v, h1, rfl, hown, hb⟩ | ⟨h1, rfl, hb⟩
  · obtain ⟨A, c, rfl, hr⟩ := Rd.of_own hown
    exact ⟨hb, A, c, by rw [h1]; rfl, by rw [h1]; exact hr⟩
  · exact ⟨hb, none, 0, by rw [h1]; rfl, by rw [h1]; exact Rd.nil _ _ _⟩
end

section
open Go.RowKit
theorem num_left (most : Nat) (l : List UInt8) (e : Nat) : (num most l e).2.1.length ≤ l.length := num_len most l e
theorem text_left (r : RdN) : (textL r).length ≤ r.2.1.length := by unfold textL; split <;> simp
theorem rdF_left (l : List UInt8) (e : Nat) : (rdF l e).2.1.length ≤ l.length := by
  unfold rdF
  have h1 := num_left 4294967295 l e
  have h2 := num_left 16 (num 4294967295 l e).2.1 (num 4294967295 l e).2.2
  have h3 := text_left (num 16 (num 4294967295 l e).2.1 (num 4294967295 l e).2.2)
  have h4 := num_left 255 (textL (num 16 (num 4294967295 l e).2.1 (num 4294967295 l e).2.2)) (textE (num 16 (num 4294967295 l e).2.1 (num 4294967295 l e).2.2))
  have h5 := num_left 1 (num 255 (textL (num 16 (num 4294967295 l e).2.1 (num 4294967295 l e).2.2)) (textE (num 16 (num 4294967295 l e).2.1 (num 4294967295 l e).2.2))).2.1 (num 255 (textL (num 16 (num 4294967295 l e).2.1 (num 4294967295 l e).2.2)) (textE (num 16 (num 4294967295 l e).2.1 (num 4294967295 l e).2.2))).2.2
  exact Nat.le_trans h5 (Nat.le_trans h4 (Nat.le_trans h3 (Nat.le_trans h2 h1)))
theorem rdFs_left : ∀ n l e acc, (rdFs n l e acc).2.1.length ≤ l.length := by
  intro n
  induction n with
  | zero => intro l e acc; simp [rdFs]
  | succ n ih =>
    intro l e acc
    simp only [rdFs]
    split
    · simp
    · exact Nat.le_trans (ih _ _ _) (rdF_left l e)
/-- what stands behind 'f.Name, r.b = string(r.b[:size]), r.b[size:]' -/
def TextDone (b bf : Nat) (wr : World) (fid : UInt32) (nm : ByteArray) (l7 : List UInt8) (wx : World) : Prop :=
  (∃ A c, RdrA wx b A c l7 0) ∧ Oth b wr wx ∧ BoxN wx bf [.int .u32 (fid.toNat : Int), .string nm, .int .u8 0, .bool false]
theorem TextDone.drew {b bf : Nat} {wr wx : World} {fid : UInt32} {nm : ByteArray} {l7 : List UInt8} (h : TextDone b bf wr fid nm l7 wx) : TextDone b bf wr fid nm l7 wx.drew := by
  obtain ⟨⟨A, c, h1⟩, h2, h3⟩ := h
  exact ⟨⟨A, c, h1.keep (Below.refl _ wx).drew⟩, h2.drew, h3.keep (Below.refl _ wx).drew h3.z⟩
section
variable {w6 wr : World} {b bf c c2 : Nat} {A A2 : Option Addr} {l l2 : List UInt8} {fid : UInt32} {s0 nm : ByteArray}
end
end
end Go.Proofs.YtbcnekaagkdmeaaDoor
