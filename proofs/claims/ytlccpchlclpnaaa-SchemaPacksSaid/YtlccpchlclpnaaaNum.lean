/- THE WALKS of reading a number: the program's reader, the document's. No statement of the seat is proved here; no condition. -/
import Derived.Test.YtlccpchlclpnaaaRdr
import Derived.Test.YtlccpchlclpnaaaVarQ
namespace Go.Proofs.Ytlccpchlclpnaaa
open Go.RowKit

set_option maxRecDepth 100000 in
theorem schNum (w : World) (b : Nat) (A : Option Addr) (c : Nat) (l : List UInt8) (er : Nat) (h : RdrA w b A c l er) (most : Nat) (_hm : most < 18446744073709551616) :
    Calls Try.prog 65 #[.pointer (some ⟨b, 0, none⟩), .int .u64 (most : Int)] w (NumEnd w b (num most l er)) := by
  have c0 := h.c0
  have c1 := h.c1
  have f0 := h.f0
  have f1 := h.f1
  go_enter Try.func65, Try.ntmps65
  by_cases he : er = 0
  · subst he
    have c1 : w.cell? ⟨b, 1, none⟩ = some (.int .i64 0) := h.c1
    go_wp2_with fail
    refine (varGet w b _ c A l h.rd).mono ?_
    rintro e w1 ⟨rfl, rfl⟩
    have hused := hide (show (Var.get l).2.1 ≤ 10 from Var.get_used l)
    by_cases hg : (Var.get l).2.2 = 0
    · by_cases hb : most < (Var.get l).1
      · have HN := hide (num_m hg hb)
        obtain ⟨g1, hg1⟩ : ∃ g, g = (Var.get l).1 := ⟨_, rfl⟩
        rw [← hg1] at hb ⊢
        rw [hg]
        generalize (Var.get l).2.1 = g2 at *
        clear hg hg1
        go_wp2_with fail
        go_ret
        exact ⟨by rw [HN.out]; rfl, ⟨A, c, by rw [HN.out]; exact h.set1 40⟩, (Oth.refl b w).set 1 _⟩
      · have HN := hide (num_0 hg hb)
        have hk : (Var.get l).2.1 ≤ l.length := (Var.get_ok (l := l) (n := (Var.get l).1) (k := (Var.get l).2.1) (by rw [← hg])).2.1
        obtain ⟨A2, l2, hl2, s1, s2, hr2⟩ := rd_lo h.rd hk
        rw [← hl2] at HN
        obtain ⟨g1, hg1⟩ : ∃ g, g = (Var.get l).1 := ⟨_, rfl⟩
        rw [← hg1] at hb HN ⊢
        rw [hg]
        generalize (Var.get l).2.1 = g2 at *
        have HR := hide hr2
        clear hg hg1 hl2 hk hr2
        go_wp2_with fail
        go_ret
        exact ⟨by rw [HN.out]; rfl, ⟨A2, c - g2, by rw [HN.out]; exact h.set0 HR.out⟩, (Oth.refl b w).set 0 _⟩
    · have HN := hide (num_g (most := most) hg)
      obtain ⟨g3, hg3⟩ : ∃ g, g = (Var.get l).2.2 := ⟨_, rfl⟩
      rw [← hg3] at hg HN ⊢
      generalize (Var.get l).2.1 = g2 at *
      generalize (Var.get l).1 = g1 at *
      have t1 : ((g3 : Int) == 0) = false := by rw [beq_eq_false_iff_ne]; omega
      have t2 : ((g3 : Int) != 0) = true := by rw [bne_iff_ne]; omega
      clear hg hg3
      go_wp2_with fail
      go_ret
      exact ⟨by rw [HN.out]; rfl, ⟨A, c, by rw [HN.out]; exact h.set1 g3⟩, (Oth.refl b w).set 1 _⟩
  · have HN := hide (num_e (most := most) (l := l) he)
    have t1 : ((er : Int) != 0) = true := by rw [bne_iff_ne]; omega
    clear he
    go_wp2_with fail
    go_ret
    exact ⟨by rw [HN.out]; rfl, ⟨A, c, by rw [HN.out]; exact h⟩, Oth.refl b w⟩
set_option maxRecDepth 100000 in
theorem refNum (w : World) (b : Nat) (A : Option Addr) (c : Nat) (l : List UInt8) (er : Nat) (h : RdrA w b A c l er) (most : Nat) (_hm : most < 18446744073709551616) :
    Calls Try.prog 67 #[.pointer (some ⟨b, 0, none⟩), .int .u64 (most : Int)] w (NumEnd w b (num most l er)) := by
  have c0 := h.c0
  have c1 := h.c1
  have f0 := h.f0
  have f1 := h.f1
  go_enter Try.func67, Try.ntmps67
  by_cases he : er = 0
  · subst he
    have c1 : w.cell? ⟨b, 1, none⟩ = some (.int .i64 0) := h.c1
    go_wp2_with fail
    refine (refGet w b _ c A l h.rd (Nat.le_of_lt h.z)).mono ?_
    rintro e w1 ⟨rfl, hb1⟩
    have h1 := h.keep hb1
    have ho1 : Oth b w w1 := .of hb1
    clear c0 c1 f0 f1 hb1
    have c0 := h1.c0
    have c1 : w1.cell? ⟨b, 1, none⟩ = some (.int .i64 0) := h1.c1
    have f0 := h1.f0
    have f1 := h1.f1
    by_cases hg : (Var.get l).2.2 = 0
    · by_cases hb : most < (Var.get l).1
      · have HN := hide (num_m hg hb)
        obtain ⟨g1, hg1⟩ : ∃ g, g = (Var.get l).1 := ⟨_, rfl⟩
        rw [← hg1] at hb ⊢
        rw [hg]
        generalize (Var.get l).2.1 = g2 at *
        clear hg hg1
        go_wp2_with fail
        go_ret
        exact ⟨by rw [HN.out]; rfl, ⟨A, c, by rw [HN.out]; exact h1.set1 40⟩, ho1.set 1 _⟩
      · have HN := hide (num_0 hg hb)
        have hk : (Var.get l).2.1 ≤ l.length := (Var.get_ok (l := l) (n := (Var.get l).1) (k := (Var.get l).2.1) (by rw [← hg])).2.1
        have h2 := h1.set1 0
        obtain ⟨A2, l2, hl2, s1, s2, hr2⟩ := rd_lo h2.rd hk
        rw [← hl2] at HN
        obtain ⟨g1, hg1⟩ : ∃ g, g = (Var.get l).1 := ⟨_, rfl⟩
        rw [← hg1] at hb HN ⊢
        rw [hg]
        generalize (Var.get l).2.1 = g2 at *
        have HR := hide hr2
        have H2 := hide h2
        clear hg hg1 hl2 hk hr2 h2
        go_wp2_with fail
        go_ret
        exact ⟨by rw [HN.out]; rfl, ⟨A2, c - g2, by rw [HN.out]; exact H2.out.set0 HR.out⟩, (ho1.set 1 _).set 0 _⟩
    · have HN := hide (num_g (most := most) hg)
      obtain ⟨g3, hg3⟩ : ∃ g, g = (Var.get l).2.2 := ⟨_, rfl⟩
      rw [← hg3] at hg HN ⊢
      generalize (Var.get l).2.1 = g2 at *
      generalize (Var.get l).1 = g1 at *
      have t1 : ((g3 : Int) == 0) = false := by rw [beq_eq_false_iff_ne]; omega
      have t2 : ((g3 : Int) != 0) = true := by rw [bne_iff_ne]; omega
      clear hg hg3
      go_wp2_with fail
      go_ret
      exact ⟨by rw [HN.out]; rfl, ⟨A, c, by rw [HN.out]; exact h1.set1 g3⟩, ho1.set 1 _⟩
  · have HN := hide (num_e (most := most) (l := l) he)
    have t1 : ((er : Int) != 0) = true := by rw [bne_iff_ne]; omega
    clear he
    go_wp2_with fail
    go_ret
    exact ⟨by rw [HN.out]; rfl, ⟨A, c, by rw [HN.out]; exact h⟩, Oth.refl b w⟩
end Go.Proofs.Ytlccpchlclpnaaa
