/- THE WALK of reading a text: the document's. No statement of the seat is proved here; no condition. -/
import Derived.Test.YtlccpchlclpnaaaNum
import Derived.Test.YtlccpchlclpnaaaBoxN
namespace Go.Proofs.Ytlccpchlclpnaaa
open Go.RowKit

set_option maxRecDepth 100000 in
theorem refText (w : World) (b : Nat) (A : Option Addr) (c : Nat) (l : List UInt8) (er : Nat) (h : RdrA w b A c l er) (most : Nat) (hm : most < 18446744073709551616) :
    Calls Try.prog 68 #[.pointer (some ⟨b, 0, none⟩), .int .u64 (most : Int)] w (TextEnd w b (num most l er)) := by
  go_enter Try.func68, Try.ntmps68
  go_wp2_with fail
  refine (refNum w b A c l er h most hm).mono ?_
  rintro e w1 ⟨rfl, ⟨A1, c1, h1⟩, ho1⟩
  have hle := num_le most l er
  generalize num most l er = r at *
  obtain ⟨n1, l1, e1⟩ := r
  dsimp only at h1 hle ⊢
  have hcap : l1.length < 9223372036854775808 := by have := h1.rd.le; have := h1.rd.cap; unfold maxLen at *; omega
  have k0 := h1.c0
  have k1 := h1.c1
  have f0 := h1.f0
  have f1 := h1.f1
  by_cases he : e1 = 0
  · subst he
    have k1 : w1.cell? ⟨b, 1, none⟩ = some (.int .i64 0) := h1.c1
    by_cases hl : l1.length < n1
    · obtain ⟨q1, q2, q3⟩ := text_30 (r := (n1, l1, 0)) rfl hl
      have HQ := hide (And.intro q1 (And.intro q2 q3))
      clear q1 q2 q3
      go_wp2_with fail
      go_ret
      exact ⟨by rw [HQ.out.2.1]; rfl, ⟨A1, c1, by rw [HQ.out.1, HQ.out.2.2]; exact h1.set1 30⟩, ho1.set 1 _⟩
    · obtain ⟨q1, q2, q3⟩ := text_0 (r := (n1, l1, 0)) rfl hl
      have hl' : n1 ≤ l1.length := by omega
      obtain ⟨A2, l2, hl2, s1, s2, hr2⟩ := rd_lo h1.rd hl'
      obtain ⟨s3, s4, hr3⟩ := rd_hi h1.rd hl'
      have hcv := run_str (P := Try.prog) w1 Try.underlying54 Try.underlying5 Try.underlying9 (by simpa [List.length_take, Nat.min_eq_left hl'] using hr3)
      dsimp only at q2 q3
      rw [← hl2] at q3
      obtain ⟨nm, hnm⟩ : ∃ nm : ByteArray, nm = ⟨(l1.take n1).toArray⟩ := ⟨_, rfl⟩
      rw [← hnm] at q2 hcv
      have HQ := hide (And.intro q1 (And.intro q2 q3))
      have HR := hide hr2
      clear q1 q2 q3 hl2 hr2 hr3 hnm
      go_wp2_with fail
      go_ret
      exact ⟨by rw [HQ.out.2.1]; rfl, ⟨A2, _, by rw [HQ.out.1, HQ.out.2.2]; exact h1.set0 HR.out⟩, ho1.set 0 _⟩
  · obtain ⟨q1, q2, q3⟩ := text_e (r := (n1, l1, e1)) he
    have HQ := hide (And.intro q1 (And.intro q2 q3))
    have t1 : ((e1 : Int) == 0) = false := by rw [beq_eq_false_iff_ne]; omega
    have t2 : ((e1 : Int) != 0) = true := by rw [bne_iff_ne]; omega
    clear q1 q2 q3 he
    go_wp2_with fail
    go_ret
    exact ⟨by rw [HQ.out.2.1]; rfl, ⟨A1, c1, by rw [HQ.out.1, HQ.out.2.2]; exact h1⟩, ho1⟩
end Go.Proofs.Ytlccpchlclpnaaa
