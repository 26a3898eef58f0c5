/- THE WALK of entry's writer.num at a writer whose bytes are still the literal's. No statement of the seat is proved here; no condition but sizes. -/
import Derived.Test.YtbcnekaagkdmeaaDoorEnM
import Derived.Deep.RegionLawGrows
namespace Go.Proofs.YtbcnekaagkdmeaaDoor
open Go.RowKit

/-- the writer's box b, its bytes a literal's -/
structure WG (w : World) (b B q : Nat) (l : List UInt8) : Prop where
  bx : BoxT w b [.slice (some ⟨q, 0, none⟩) l.length l.length] 56
  le : B ≤ w.heap.size
  lit : ∀ j u, (bytesV l)[j]? = some u → w.cell? ⟨q, j, none⟩ = some u
  qz : q < w.heap.size
section
variable {b B q : Nat} {w w' : World} {l : List UInt8}
theorem WG.keep (h : WG w b B q l) (hb : Below w.heap.size w w') : WG w' b B q l := ⟨h.bx.keep hb, Nat.le_trans h.le hb.size, fun j u hj => (hb.cell (p := ⟨q, j, none⟩) h.qz).trans (h.lit j u hj), Nat.lt_of_lt_of_le h.qz hb.size⟩
theorem WG.drew (h : WG w b B q l) : WG w.drew b B q l := h.keep ((Below.refl _ w).drew)
theorem WG.c0 (h : WG w b B q l) : w.cell? ⟨b, 0, none⟩ = some (.slice (some ⟨q, 0, none⟩) l.length l.length) := h.bx.bx.cell 0 _ rfl
theorem WG.olds (h : WG w b B q l) : ∀ b, some (⟨q, 0, none⟩ : Addr) = some b → ∀ j u, (bytesV l)[j]? = some u → w.cell? (b.add j) = some u := fun b hb j u hj => by
  injection hb with hb
  subst hb
  rw [Addr.add_lit, Nat.zero_add]
  exact h.lit j u hj
theorem WG.put (h : WG w b B q l) {p : List UInt8} (hpos : 0 < p.length) {w8 : World} {v8 : Value} (hown : w8.ownsRow w.heap.size 5 1 v8 (l.length + p.length) (bytesV l ++ bytesV p)) (hg : w.grownBy w8 none) :
    ∃ g cap, v8 = .slice (some ⟨g, 0, none⟩) (l.length + p.length) cap ∧ w8.cell? ⟨b, 0, none⟩ = some (.slice (some ⟨q, 0, none⟩) l.length l.length) ∧ w8.frozen? ⟨b, 0, none⟩ = false ∧ WB (w8.setCell ⟨b, 0, none⟩ (.slice (some ⟨g, 0, none⟩) (l.length + p.length) cap)) b B (some ⟨g, 0, none⟩) cap (l ++ p) ∧ Wz b B w (w8.setCell ⟨b, 0, none⟩ (.slice (some ⟨g, 0, none⟩) (l.length + p.length) cap)) := by
  obtain ⟨g, cap, rfl, _, _⟩ := hown.form (by omega)
  have hb8 : Below w.heap.size w w8 := ⟨hg.os, hg.tape, hg.output, hg.size, fun k hk => hg.block k hk (by simp)⟩
  have bx := h.bx.keep hb8
  have e1 : (l ++ p).length = l.length + p.length := List.length_append
  have hle := h.le
  have hs := hg.size
  refine ⟨g, cap, rfl, bx.bx.cell 0 _ rfl, bx.bx.free 0 (by simp), ⟨?_, by simp; omega, ?_⟩, (Wz.of hb8).set 0 _⟩
  · rw [e1]; exact bx.set (j := 0) _ rfl
  · rw [e1, bytesV_append]; exact own_setT (own_base hown hle) bx (by decide) 0 _
end
set_option maxRecDepth 100000 in
set_option maxHeartbeats 1000000 in
theorem entWNumF (w : World) (b B q : Nat) (l : List UInt8) (h : WG w b B q l) (n : Nat) (h1 : n < 18446744073709551616) (hl : l.length ≤ 900000) :
    Calls Tryd.prog 21 #[.pointer (some ⟨b, 0, none⟩), .int .u64 (n : Int)] w (WEnd w b B (l ++ Var.put n)) := by
  have hp := Var.put_le10 (n := n) h1
  have hpos := put_pos n
  have c0 := h.c0
  obtain ⟨ti, hti, hti1, hti2, hti3⟩ := info_parts tyBytes.inf
  obtain ⟨p, hpe⟩ : ∃ p, Var.put n = p := ⟨_, rfl⟩
  have HV : ∀ w, Calls Tryd.prog 38 #[.int .u64 (n : Int)] w (RetBytes w p) := fun w => by rw [← hpe]; have := varPut (n : Int) w (by omega) (by omega); rw [Int.toNat_natCast] at this; exact this
  rw [hpe] at hp hpos ⊢
  clear hpe h1
  go_enter Tryd.func21, Tryd.ntmps21
  go_upto_region 0 with fail
  refine wp_region_held_drew (S := fun _ => True) (by kernel_rfl) ?_ (fun hHeld => ?_)
  · trivial
  refine wpAnyH_take (i := 0) (v := ?_) rfl (by kernel_rfl) (by kernel_rfl) (by kernel_rfl) (fun _ _ _ h => h) (Or.inl ⟨by rfl, ?_⟩) hHeld ?_
  rotate_left 1
  · (intro w hSw; go_simp; first | done | with_reducible rfl)
  (try simp only [Act.put, List.setIfInBounds_toArray, List.set_cons_zero, List.set_cons_succ])
  refine wpAnyH_take (i := 1) (v := ?_) rfl (by kernel_rfl) (by kernel_rfl) (by kernel_rfl) (fun _ _ _ h => h) (Or.inl ⟨by rfl, ?_⟩) hHeld ?_
  rotate_left 1
  · (intro w hSw; go_simp; first | done | with_reducible rfl)
  (try simp only [Act.put, List.setIfInBounds_toArray, List.set_cons_zero, List.set_cons_succ])
  refine wpAnyH_take (i := 2) (v := ?_) rfl (by kernel_rfl) (by kernel_rfl) (by kernel_rfl) (fun _ _ _ h => h) (Or.inl ⟨by rfl, ?_⟩) hHeld ?_
  rotate_left 1
  · (intro w hSw; go_simp; first | done | with_reducible rfl)
  (try simp only [Act.put, List.setIfInBounds_toArray, List.set_cons_zero, List.set_cons_succ])
  refine wpAnyH_take (i := 3) (v := ?_) rfl (by kernel_rfl) (by kernel_rfl) (by kernel_rfl) (fun _ _ _ h => h) (Or.inl ⟨by rfl, ?_⟩) hHeld ?_
  rotate_left 1
  · (intro w hSw; go_simp; first | done | with_reducible rfl)
  (try simp only [Act.put, List.setIfInBounds_toArray, List.set_cons_zero, List.set_cons_succ])
  refine wpAnyH_take (i := 5) (v := ?_) rfl (by kernel_rfl) (by kernel_rfl) (by kernel_rfl) (fun _ _ _ h => h) (Or.inl ⟨by rfl, ?_⟩) hHeld ?_
  rotate_left 1
  · (intro w hSw; go_simp; first | done | with_reducible rfl)
  (try simp only [Act.put, List.setIfInBounds_toArray, List.set_cons_zero, List.set_cons_succ])
  refine wpAnyH_ready (rs := [4, 6]) (by kernel_rfl) (by simp) ?_
  refine AllReadyH.cons rfl (fun K hK => ?_) (AllReadyH.cons rfl (fun K hK => ?_) (AllReadyH.nil))
  · go_simp
    refine hK.out _ _ trivial (fun hHeld => ?_)
    clear hK K
    (try simp only [Act.put, List.setIfInBounds_toArray, List.set_cons_zero, List.set_cons_succ])
    refine wpAnyH_ready (rs := [6]) (by kernel_rfl) (by simp) ?_
    refine AllReadyH.cons rfl (fun K hK => ?_) (AllReadyH.nil)
    · go_simp
      go_at_call 38
      refine (HV w.drew).mono ?_
      rintro e w1 ⟨v1, rfl, hown1, hb1⟩
      obtain ⟨g1, k1, rfl, hg1, hg2⟩ := hown1.form hpos
      have HW := hide (And.intro (h.drew.keep hb1) (And.intro ((Wz.refl b B w).drew.trans (.of hb1)) (lit_own hown1)))
      have c1 := (h.drew.keep hb1).c0
      clear hb1 hown1
      refine hK.out _ _ trivial (fun hHeld => ?_)
      clear hK K
      (try simp only [Act.put, List.setIfInBounds_toArray, List.set_cons_zero, List.set_cons_succ])
      refine wpAnyH_ready (rs := [7]) (by kernel_rfl) (by simp) ?_
      refine AllReadyH.cons rfl (fun K hK => ?_) (AllReadyH.nil)
      · refine step_append_grows rfl (.tmp 8) (.tmp 10) 25 rfl 5 ti _ 1 1 Tryd.underlying25 hti hti1 hti2 hti3 tyBytes.zs (by decide) (some ⟨q, 0, none⟩) l.length l.length (bytesV l) (by simp [Act.eval, Act.put]) (by simp) (by rw [bytesV_length, Nat.mul_one]) HW.out.1.olds _ p.length k1 (bytesV p) (by simp [Act.eval, Act.put]) (by rw [bytesV_length, Nat.mul_one]) HW.out.2.2 (bytesV_one _) (by omega) (by unfold maxLen <;> omega) (by omega) ?_
        intro v8 w8 hown8 hg8
        obtain ⟨g, cap, rfl, d0, d1, hG, hZ⟩ := HW.out.1.put hpos hown8 hg8
        have HG8 := hide (And.intro hG ((HW.out.2.1).trans hZ))
        clear hown8 hg8 hG hZ
        refine hK.out _ _ trivial (fun hHeld => ?_)
        clear hK K
        (try simp only [Act.put, List.setIfInBounds_toArray, List.set_cons_zero, List.set_cons_succ])
        refine wpAnyH_take (i := 8) (v := ?_) rfl (by kernel_rfl) (by kernel_rfl) (by kernel_rfl) (fun _ _ _ h => h) (Or.inl ⟨by rfl, ?_⟩) hHeld ?_
        rotate_left 1
        · (intro w hSw; go_simp; first | done | with_reducible rfl)
        (try simp only [Act.put, List.setIfInBounds_toArray, List.set_cons_zero, List.set_cons_succ])
        refine wpAnyH_take (i := 9) (v := ?_) rfl (by kernel_rfl) (by kernel_rfl) (by kernel_rfl) (fun _ _ _ h => h) (Or.inl ⟨by rfl, ?_⟩) hHeld ?_
        rotate_left 1
        · (intro w hSw; go_simp; first | done | with_reducible rfl)
        (try simp only [Act.put, List.setIfInBounds_toArray, List.set_cons_zero, List.set_cons_succ])
        refine wpAnyH_ready (rs := [10]) (by kernel_rfl) (by simp) ?_
        refine AllReadyH.cons rfl (fun K hK => ?_) (AllReadyH.nil)
        · go_simp
          refine hK.out _ _ trivial (fun hHeld => ?_)
          clear hK K
          (try simp only [Act.put, List.setIfInBounds_toArray, List.set_cons_zero, List.set_cons_succ])
          refine wpAnyH_done (by kernel_rfl) ?_ _
          go_wp2_with fail
          go_end0
          exact ⟨rfl, ⟨_, _, HG8.out.1⟩, HG8.out.2⟩
  · go_simp
    go_at_call 38
    refine (HV w.drew).mono ?_
    rintro e w1 ⟨v1, rfl, hown1, hb1⟩
    obtain ⟨g1, k1, rfl, hg1, hg2⟩ := hown1.form hpos
    have HW := hide (And.intro (h.drew.keep hb1) (And.intro ((Wz.refl b B w).drew.trans (.of hb1)) (lit_own hown1)))
    have c1 := (h.drew.keep hb1).c0
    clear hb1 hown1
    refine hK.out _ _ trivial (fun hHeld => ?_)
    clear hK K
    (try simp only [Act.put, List.setIfInBounds_toArray, List.set_cons_zero, List.set_cons_succ])
    refine wpAnyH_ready (rs := [4]) (by kernel_rfl) (by simp) ?_
    refine AllReadyH.cons rfl (fun K hK => ?_) (AllReadyH.nil)
    · go_simp
      refine hK.out _ _ trivial (fun hHeld => ?_)
      clear hK K
      (try simp only [Act.put, List.setIfInBounds_toArray, List.set_cons_zero, List.set_cons_succ])
      refine wpAnyH_ready (rs := [7]) (by kernel_rfl) (by simp) ?_
      refine AllReadyH.cons rfl (fun K hK => ?_) (AllReadyH.nil)
      · refine step_append_grows rfl (.tmp 8) (.tmp 10) 25 rfl 5 ti _ 1 1 Tryd.underlying25 hti hti1 hti2 hti3 tyBytes.zs (by decide) (some ⟨q, 0, none⟩) l.length l.length (bytesV l) (by simp [Act.eval, Act.put]) (by simp) (by rw [bytesV_length, Nat.mul_one]) HW.out.1.olds _ p.length k1 (bytesV p) (by simp [Act.eval, Act.put]) (by rw [bytesV_length, Nat.mul_one]) HW.out.2.2 (bytesV_one _) (by omega) (by unfold maxLen <;> omega) (by omega) ?_
        intro v8 w8 hown8 hg8
        obtain ⟨g, cap, rfl, d0, d1, hG, hZ⟩ := HW.out.1.put hpos hown8 hg8
        have HG8 := hide (And.intro hG ((HW.out.2.1).trans hZ))
        clear hown8 hg8 hG hZ
        refine hK.out _ _ trivial (fun hHeld => ?_)
        clear hK K
        (try simp only [Act.put, List.setIfInBounds_toArray, List.set_cons_zero, List.set_cons_succ])
        refine wpAnyH_take (i := 8) (v := ?_) rfl (by kernel_rfl) (by kernel_rfl) (by kernel_rfl) (fun _ _ _ h => h) (Or.inl ⟨by rfl, ?_⟩) hHeld ?_
        rotate_left 1
        · (intro w hSw; go_simp; first | done | with_reducible rfl)
        (try simp only [Act.put, List.setIfInBounds_toArray, List.set_cons_zero, List.set_cons_succ])
        refine wpAnyH_take (i := 9) (v := ?_) rfl (by kernel_rfl) (by kernel_rfl) (by kernel_rfl) (fun _ _ _ h => h) (Or.inl ⟨by rfl, ?_⟩) hHeld ?_
        rotate_left 1
        · (intro w hSw; go_simp; first | done | with_reducible rfl)
        (try simp only [Act.put, List.setIfInBounds_toArray, List.set_cons_zero, List.set_cons_succ])
        refine wpAnyH_ready (rs := [10]) (by kernel_rfl) (by simp) ?_
        refine AllReadyH.cons rfl (fun K hK => ?_) (AllReadyH.nil)
        · go_simp
          refine hK.out _ _ trivial (fun hHeld => ?_)
          clear hK K
          (try simp only [Act.put, List.setIfInBounds_toArray, List.set_cons_zero, List.set_cons_succ])
          refine wpAnyH_done (by kernel_rfl) ?_ _
          go_wp2_with fail
          go_end0
          exact ⟨rfl, ⟨_, _, HG8.out.1⟩, HG8.out.2⟩

end Go.Proofs.YtbcnekaagkdmeaaDoor
