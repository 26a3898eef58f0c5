/- THE WALKS of the reference's GetInt and of the examples 'alive'. -/
import Derived.Test.YtjjileokdikcmaaVarR
namespace Go.Proofs.Ytjjileokdikcmaa
open Go.RowKit

theorem refGetInt (w : World) (B n c : Nat) (A : Option Addr) (l : List UInt8) (hr : Rd w B 1 A n c (bytesV l)) (hB : B ≤ w.heap.size) :
    Calls Try.prog 18 #[.slice A n c] w (RetVal w (IntGet l)) := by
  obtain ⟨g, hg⟩ : ∃ g, g = (Var.get l).1 := ⟨_, rfl⟩
  have hlt : g < 18446744073709551616 := by rw [hg]; exact Var.get_lt l
  have HG := hide hg
  have HL := hide hlt
  by_cases h2 : g % 2 = 0
  · have hu : unzig g = ((g / 2 : Nat) : Int) := by unfold unzig; rw [if_pos h2]
    have t1 : ((g : Int) % 2 == 0) = true := by simp; omega
    have e1 : wrap64 ((g : Int) / 2) = unzig g := by rw [IntWalk.wrap64_in _ ⟨by omega, by omega⟩, hu]; omega
    have ew : IntKind.u64.wrap ((g : Int) / 2) = (g : Int) / 2 := IntWalk.u64_in _ ⟨by omega, by omega⟩
    have HU := hide hu
    clear hg hlt hu h2
    go_enter Try.func18, Try.ntmps18
    go_wp2_with fail
    refine (refGet w B n c A l hr hB).mono ?_
    rintro e w1 ⟨rfl, hb1⟩
    rw [← HG.out]
    go_wp2
    go_ret3
    refine ⟨?_, hb1⟩
    unfold IntGet
    rw [← HG.out, ← e1]
    rfl
  · have hu : unzig g = -((g / 2 : Nat) : Int) - 1 := by unfold unzig; rw [if_neg h2]
    have t1 : ((g : Int) % 2 == 0) = false := by simp; omega
    have e1 : wrap64 (wrap64 (-wrap64 ((g : Int) / 2)) - 1) = unzig g := by
      rw [IntWalk.wrap64_in ((g : Int) / 2) ⟨by omega, by omega⟩, IntWalk.wrap64_in (-((g : Int) / 2)) ⟨by omega, by omega⟩, IntWalk.wrap64_in _ ⟨by omega, by omega⟩, hu]; omega
    have ew : IntKind.u64.wrap ((g : Int) / 2) = (g : Int) / 2 := IntWalk.u64_in _ ⟨by omega, by omega⟩
    have HU := hide hu
    clear hg hlt hu h2
    go_enter Try.func18, Try.ntmps18
    go_wp2_with fail
    refine (refGet w B n c A l hr hB).mono ?_
    rintro e w1 ⟨rfl, hb1⟩
    rw [← HG.out]
    go_wp2
    go_ret3
    refine ⟨?_, hb1⟩
    unfold IntGet
    rw [← HG.out, ← e1]
    rfl

theorem get_example : Var.get [172, 2, 9] = (300, 2, 0) := by decide
theorem put_300 : Var.put 300 = [172, 2] := by rw [Var.put_ge (by omega), Var.put_lt (by omega)]; rfl
theorem put_m1 : Var.put (zig (-1)) = [1] := by rw [show zig (-1) = 1 from rfl, Var.put_lt (by omega)]; rfl

theorem aliveVar (w : World) : Calls Try.prog 10 #[] w (RetVal w (.bool true)) := by
  go_enter Try.func10, Try.ntmps10
  go_wp2_with fail
  refine (varGet _ (w.heap.size + 1) 3 3 _ [172, 2, 9] (Rd.lit w 5 #[.int .u8 172, .int .u8 2, .int .u8 9] rfl (by decide))).mono ?_
  rintro e w1 ⟨rfl, rfl⟩
  rw [get_example]
  have hb0 : Below w.heap.size w (w.alloc (.cells #[.int .u8 172, .int .u8 2, .int .u8 9] 5)) := (Below.refl _ _).alloc (Nat.le_refl _) _
  generalize w.alloc (.cells #[.int .u8 172, .int .u8 2, .int .u8 9] 5) = w0 at *
  go_wp2_with fail
  refine (varPut _ _ (by omega) (by omega)).mono ?_
  rintro e w1 ⟨v1, rfl, hown1, hb1⟩
  have hb1' := below_call hb0 hb0.size hb1
  rw [show (300 : Int).toNat = 300 from rfl, put_300] at hown1
  obtain ⟨A1, c1, rfl, hr1⟩ := Rd.of_own hown1
  have hcv1 : (convert 24 9 (.slice A1 2 c1)).run Try.prog w1 = .ok (.string ⟨#[172, 2]⟩) w1 := run_str (P := Try.prog) w1 Try.underlying24 Try.underlying5 Try.underlying9 hr1
  clear hown1 hr1 hb1
  go_wp2_with fail
  refine (varPutInt (-1) _ (by omega) (by omega)).mono ?_
  rintro e w2 ⟨v2, rfl, hown2, hb2⟩
  have hb2' := below_call hb1' hb1'.size hb2
  rw [put_m1] at hown2
  obtain ⟨A2, c2, rfl, hr2⟩ := Rd.of_own hown2
  have hcv2 : (convert 24 9 (.slice A2 1 c2)).run Try.prog w2 = .ok (.string ⟨#[1]⟩) w2 := run_str (P := Try.prog) w2 Try.underlying24 Try.underlying5 Try.underlying9 hr2
  clear hown2 hr2 hb2
  go_wp2_with fail
  go_ret
  exact ⟨rfl, hb2'⟩
end Go.Proofs.Ytjjileokdikcmaa
