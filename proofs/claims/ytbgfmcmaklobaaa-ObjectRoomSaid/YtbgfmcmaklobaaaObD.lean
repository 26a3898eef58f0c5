/- THE WALKS of the store's Fuse, Fail, Dead, Used, Sync, drop, Del, Swap. No statement of the seat is proved here; no condition but sizes. -/
import Derived.Test.YtbgfmcmaklobaaaObC
namespace Go.Proofs.Ytbgfmcmaklobaaa
open Go.RowKit

set_option maxRecDepth 100000 in
theorem objFuse (P : Nat → Prop) (w : World) (sb mb N : Nat) (s : So) (h : StR P w sb mb N s) (n : Int) (n1 : n ≤ 9223372036854775807) : Calls Try.prog 10 #[.pointer (some ⟨sb, 0, none⟩), .int .i64 n] w fun e w' => e = .returned (.tuple #[]) ∧ StR P w' sb mb N { s with fuse := max n (-1) } ∧ Ost sb mb w w' := by
  have c4 := h.bx.cell 4 _ rfl
  have f4 := h.bx.free 4 (by simp)
  go_enter Try.func10, Try.ntmps10
  go_wp2_with fail
  go_end0
  obtain ⟨a, b, c, d, e, f, g, i, j⟩ := h.ok
  exact ⟨rfl, h.box ((Oth.refl sb w).set 4 _) rfl ⟨a, b, c, d, (by show -1 ≤ max n (-1); omega), (by show max n (-1) ≤ 9223372036854775807; omega), g, i, j⟩ (h.bx.set (j := 4) (.int .i64 (max n (-1))) rfl), .ofOth ((Oth.refl sb w).set 4 _)⟩
set_option maxRecDepth 100000 in
theorem objFail (P : Nat → Prop) (w : World) (sb mb N : Nat) (s : So) (h : StR P w sb mb N s) (n : Int) (n1 : n ≤ 9223372036854775807) : Calls Try.prog 11 #[.pointer (some ⟨sb, 0, none⟩), .int .i64 n] w fun e w' => e = .returned (.tuple #[]) ∧ StR P w' sb mb N { s with fault := max n (-1) } ∧ Ost sb mb w w' := by
  have c4 := h.bx.cell 5 _ rfl
  have f4 := h.bx.free 5 (by simp)
  go_enter Try.func11, Try.ntmps11
  go_wp2_with fail
  go_end0
  obtain ⟨a, b, c, d, e, f, g, i, j⟩ := h.ok
  exact ⟨rfl, h.box ((Oth.refl sb w).set 5 _) rfl ⟨a, b, c, d, e, f, (by show -1 ≤ max n (-1); omega), (by show max n (-1) ≤ 9223372036854775807; omega), j⟩ (h.bx.set (j := 5) (.int .i64 (max n (-1))) rfl), .ofOth ((Oth.refl sb w).set 5 _)⟩
set_option maxRecDepth 100000 in
theorem objDead (P : Nat → Prop) (w : World) (sb mb N : Nat) (s : So) (h : StR P w sb mb N s) : Calls Try.prog 14 #[.pointer (some ⟨sb, 0, none⟩)] w fun e w' => e = .returned (.bool s.dead) ∧ w = w' := by
  have c4 := h.bx.cell 6 _ rfl
  go_enter Try.func14, Try.ntmps14
  go_wp2_with fail
  go_ret
  exact ⟨rfl, rfl⟩
set_option maxRecDepth 100000 in
theorem objUsed (P : Nat → Prop) (w : World) (sb mb N : Nat) (s : So) (h : StR P w sb mb N s) : Calls Try.prog 18 #[.pointer (some ⟨sb, 0, none⟩)] w fun e w' => e = .returned (.int .i64 s.used) ∧ w = w' := by
  have c4 := h.bx.cell 1 _ rfl
  go_enter Try.func18, Try.ntmps18
  go_wp2_with fail
  go_ret
  exact ⟨rfl, rfl⟩
theorem Oth.set' {u w : World} {p : Addr} (h : Oth p.block u w) (x : Value) : Oth p.block u (w.setCell p x) := h.trans ⟨rfl, rfl, rfl, by simp [World.setCell], fun _ _ hne => Below.heap_setCell _ _ _ _ hne⟩
theorem msum_put {m : Mp} (hd : mdist m) {s : ByteArray} {t : Th} (h : mget m s = some t) (u : Th) : msum (mput m s u) + t.bs.length = msum m + u.bs.length := by
  have := msum_del hd h
  unfold mput
  rw [msum_append]
  have e : msum [(s, u)] = u.bs.length := by simp [msum]
  rw [e]
  omega
theorem mget_len {m : Mp} {s : ByteArray} {t : Th} (hd : mdist m) (h : mget m s = some t) : t.bs.length ≤ msum m := by
  have := msum_del hd h
  omega
theorem RdP.ostP {P : Nat → Prop} {w w' : World} {sb mb : Nat} {A : Option Addr} {n c : Nat} {l : List UInt8} (h : RdP w P A n c l) (ho : Ost sb mb w w') (h1 : ¬ P sb) (h2 : ¬ P mb) : RdP w' P A n c l :=
  h.keep ho.size fun p hp hl => ho.cell hl (fun q => h1 (by rw [← q]; exact hp)) (fun q => h2 (by rw [← q]; exact hp))
theorem StR.nM {P : Nat → Prop} {w : World} {sb mb N : Nat} {s : So} (h : StR P w sb mb N s) : ¬ P mb := by obtain ⟨D, hD⟩ := h.mp; exact hD.nP
/-- a cell of a block of none's turned -/
theorem StR.else {P : Nat → Prop} {w : World} {sb mb N : Nat} {s : So} (h : StR P w sb mb N s) {p : Addr} (h1 : p.block ≠ sb) (h2 : p.block ≠ mb) (h3 : ¬ P p.block) (x : Value) : StR P (w.setCell p x) sb mb N s := by
  have ho := (Oth.refl p.block w).set' x
  obtain ⟨D, hD⟩ := h.mp
  exact ⟨h.bx.oth ho (fun q => h1 q.symm), ⟨D, hD.move ho.size (ho.block mb hD.lt (fun q => h2 q.symm)) (fun r hr hl => ho.cell hl (fun q => h3 (by rw [← q]; exact hr)))⟩, h.nP, h.ne, h.ok⟩
theorem So.sync_dead {s : So} (h : s.dead = true) (nm : ByteArray) : s.sync nm = (s, 120) := by unfold So.sync; rw [if_pos h]
theorem So.sync_none {s : So} (h : s.dead = false) {nm : ByteArray} (hg : mget s.m nm = none) : s.sync nm = (s, 2) := by unfold So.sync; rw [if_neg (by rw [h]; simp), hg]
theorem So.sync_on {s : So} (h : s.dead = false) {nm : ByteArray} {t : Th} (hg : mget s.m nm = some t) : s.sync nm = if s.change.2 = 0 then ({ s.change.1 with m := mput s.change.1.m nm ⟨t.bs, false⟩ }, 0) else s.change := by unfold So.sync; rw [if_neg (by rw [h]; simp), hg]
theorem So.ok.turn {s : So} (h : s.ok) {nm : ByteArray} {t : Th} (hg : mget s.m nm = some t) (l : Bool) : ({ s with m := mput s.m nm ⟨t.bs, l⟩ } : So).ok := by
  obtain ⟨a, b, c, d, e, f, g, i, j⟩ := h
  have := msum_put j hg ⟨t.bs, l⟩
  exact ⟨a, b, by show s.used = msum (mput s.m nm ⟨t.bs, l⟩); dsimp only at this; omega, d, e, f, g, i, mput_dist j nm _⟩
set_option maxRecDepth 100000 in
set_option maxHeartbeats 4000000 in
theorem objSync (P : Nat → Prop) (w : World) (sb mb N : Nat) (s : So) (h : StR P w sb mb N s) (hN : N ≤ 1000000) (nm : ByteArray) (hn : nm.size ≤ maxLen) :
    Calls Try.prog 12 #[.pointer (some ⟨sb, 0, none⟩), .string nm] w (StEnd P w sb mb (N + 1) (s.sync nm)) := by
  have c2 := h.bx.cell 2 _ rfl
  have c6 := h.bx.cell 6 _ rfl
  obtain ⟨D, hD⟩ := h.mp
  cases hd : s.dead with
  | true =>
    rw [hd] at c6
    have HG := hide (So.sync_dead hd nm)
    clear hd hD
    go_enter Try.func12, Try.ntmps12
    go_wp2_with fail
    go_ret
    rw [HG.out]
    exact ⟨rfl, h.mono (Nat.le_succ _), Ost.refl _ _ _⟩
  | false =>
    rw [hd] at c6
    cases hg : mget s.m nm with
    | none =>
      have hk := (hD.none hg hn).1
      have HG := hide (So.sync_none hd hg)
      unfold zTh at hk
      clear hg hD hd
      go_enter Try.func12, Try.ntmps12
      go_wp2_with fail
      go_ret
      rw [HG.out]
      have hb := (Below.refl w.heap.size w).alloc (Nat.le_refl _) (.cells #[.slice none 0 0, .bool false] 56)
      exact ⟨rfl, (h.keep hb).mono (Nat.le_succ _), .of hb⟩
    | some t =>
      obtain ⟨A, c, hk, _, hr⟩ := hD.some_ hg hn
      have HG := hide (So.sync_on hd hg)
      have HGT := hide hg
      have hb1 := (Below.refl w.heap.size w).alloc (Nat.le_refl _) (.cells #[.slice A t.bs.length c, .bool t.loose] 56)
      have OW0 := Ost.of (sb := sb) (mb := mb) hb1
      have y := boxN_new w #[.slice A t.bs.length c, .bool t.loose] 56
      have hnP := h.nP
      have hnM := h.nM
      have hsz : sb < w.heap.size := h.bx.z
      have hmz := h.mlt
      have h1 := (h.imp (Q := fun k => P k ∧ k ≠ w.heap.size) (fun k hk hl => ⟨hk, by omega⟩) (fun q => hnP q.1) (fun q => hnM q.1)).keep hb1
      have hr1 := (hr.imp (Q := fun k => P k ∧ k ≠ w.heap.size) (fun k hk hl => ⟨hk, by omega⟩)).low hb1
      clear hg hD hd hr h
      go_enter Try.func12, Try.ntmps12
      go_wp2_with fail
      generalize w.alloc (.cells #[.slice A t.bs.length c, .bool t.loose] 56) = w1 at *
      have HYB : Hid (w.heap.size ≤ w.heap.size) := hide (Nat.le_refl _)
      obtain ⟨yb, hyb⟩ : ∃ b, b = w.heap.size := ⟨_, rfl⟩
      replace HYB : Hid (w.heap.size ≤ yb) := hide (by omega)
      rw [← hyb] at h1 hr1 y ⊢
      have hsz : sb < yb := by omega
      have hmz : mb < yb := by omega
      clear hyb
      have hQ1 : ¬ (fun k => P k ∧ k ≠ yb) yb := fun q => q.2 rfl
      have hQ2 : ∀ k, (fun k => P k ∧ k ≠ yb) k → P k := fun k q => q.1
      have hQ3 : ¬ (fun k => P k ∧ k ≠ yb) sb := fun q => hnP q.1
      have hQ4 : ¬ (fun k => P k ∧ k ≠ yb) mb := fun q => hnM q.1
      generalize (fun k => P k ∧ k ≠ yb) = Q at *
      refine (objChange Q w1 sb mb N s h1).mono ?_
      rintro e w3 ⟨rfl, h3, O3⟩
      obtain ⟨⟨s3, er⟩, hr3⟩ : ∃ r, s.change = r := ⟨_, rfl⟩
      have hs3 : s3.m = s.m := by have := So.change_m s; rw [hr3] at this; exact this
      rw [hr3] at h3 ⊢
      have HG2 : Hid (s.sync nm = if er = 0 then ({ s3 with m := mput s3.m nm ⟨t.bs, false⟩ }, 0) else (s3, er)) := hide (by rw [HG.out, hr3])
      have hg3 : mget s3.m nm = some t := by rw [hs3]; exact HGT.out
      dsimp only at h3 ⊢
      have ynS : yb ≠ sb := by omega
      have ynM : yb ≠ mb := by omega
      have y3 : BoxN w3 yb [.slice A t.bs.length c, .bool t.loose] := by
        have hbk : w3.heap[yb]? = w1.heap[yb]? := O3.block yb y.z ynS ynM
        exact ⟨fun j v hj => (World.cell?_of_block (w := w1) (a := ⟨yb, j, none⟩) hbk).trans (y.cell j v hj), fun j hj => (World.frozen?_of_block (w := w1) (a := ⟨yb, j, none⟩) hbk).trans (y.free j hj), Nat.lt_of_lt_of_le y.z O3.size⟩
      have hrow := hr1.ostP O3 hQ3 hQ4
      have OW := OW0.trans O3
      clear hr3 hs3 h1 y hr1 O3 OW0 c2 c6 hk
      by_cases h0 : er = 0
      · subst h0
        have HF := hide (HG2.out.trans (if_pos rfl))
        have x1 := y3.cell 1 _ rfl
        have fx1 := y3.free 1 (by simp)
        have h4 := h3.else (p := ⟨yb, 1, none⟩) ynS ynM hQ1 (.bool false)
        have y4 := y3.set (j := 1) (.bool false) rfl
        have hrow4 : RdP (w3.setCell ⟨yb, 1, none⟩ (.bool false)) Q A t.bs.length c t.bs := hrow.keep (by simp) fun p hp _ => (cell_else (p := ⟨yb, 1, none⟩) (q := p) (fun r => hQ1 (by have r2 : p.block = yb := r; rw [← r2]; exact hp)) _).1
        have O4 : Ost sb mb w (w3.setCell ⟨yb, 1, none⟩ (.bool false)) := ⟨OW.os, OW.tape, OW.output, by simpa using OW.size, fun k hk h1 h2 => (Below.heap_setCell _ _ _ _ (by show k ≠ yb; have := HYB.out; omega)).trans (OW.block k hk h1 h2)⟩
        go_upto_region 9 with fail
        generalize w3.setCell ⟨yb, 1, none⟩ (.bool false) = w4 at *
        have h4d := h4.drew
        have k2 := h4d.bx.cell 2 _ rfl
        have y0 : w4.drew.cell? ⟨yb, 0, none⟩ = some (.slice A t.bs.length c) := y4.cell 0 _ rfl
        have y1 : w4.drew.cell? ⟨yb, 1, none⟩ = some (.bool false) := y4.cell 1 _ rfl
        obtain ⟨D4, hD4⟩ := h4d.mp
        obtain ⟨w5, D5, hrun, hD5, hg5⟩ := hD4.put (lo := false) (s := nm) hN hn (hrow4.low (Below.refl _ w4).drew)
        have h5 := h4d.map hg5 hD5 (h4d.ok.turn hg3 false)
        have hyb5 : w5.heap[yb]? = w4.drew.heap[yb]? := hg5.block yb y4.z (by intro q; injection q with q; exact ynM q)
        have z0 := (World.cell?_of_block (w := w4.drew) (a := ⟨yb, 0, none⟩) hyb5).trans y0
        have z1 := (World.cell?_of_block (w := w4.drew) (a := ⟨yb, 1, none⟩) hyb5).trans y1
        have j2 := h5.bx.cell 2 _ rfl
        have H5 := hide h5
        have O5 := hide (O4.drew.trans (Ost.map hg5))
        clear h5 hD5 hg5 hyb5 hD4 h4d h4 y4 y3 hrow hrow4 O4 OW h3 x1 fx1
        refine wp_region_held_drew (S := fun w' => w'.cell? ⟨sb, 2, none⟩ = some (.map (some mb)) ∧ w'.cell? ⟨yb, 0, none⟩ = some (.slice A t.bs.length c) ∧ w'.cell? ⟨yb, 1, none⟩ = some (.bool false)) (by kernel_rfl) ?_ (fun hHeld => ?_)
        · exact ⟨k2, y0, y1⟩
        refine wpAnyH_take (i := 0) (v := ?_) rfl (by kernel_rfl) (by kernel_rfl) (by kernel_rfl) (fun _ _ _ h => h) (Or.inl ⟨by rfl, ?_⟩) hHeld ?_
        rotate_left 1
        · (intro w' hSw; go_simp; first | done | with_reducible rfl)
        (try simp only [Act.put, List.setIfInBounds_toArray, List.set_cons_zero, List.set_cons_succ])
        refine wpAnyH_take (i := 1) (v := ?_) rfl (by kernel_rfl) (by kernel_rfl) (by kernel_rfl) (fun _ _ _ h => h) (Or.inl ⟨by rfl, ?_⟩) hHeld ?_
        rotate_left 1
        · (intro w' hSw; go_simp; first | done | with_reducible rfl)
        (try simp only [Act.put, List.setIfInBounds_toArray, List.set_cons_zero, List.set_cons_succ])
        refine wpAnyH_take (i := 2) (v := ?_) rfl (by kernel_rfl) (by kernel_rfl) (by kernel_rfl) (fun _ _ _ h => h) (Or.inl ⟨by rfl, ?_⟩) hHeld ?_
        rotate_left 1
        · (intro w' hSw; go_simp; first | done | with_reducible rfl)
        (try simp only [Act.put, List.setIfInBounds_toArray, List.set_cons_zero, List.set_cons_succ])
        refine wpAnyH_take (i := 3) (v := ?_) rfl (by kernel_rfl) (by kernel_rfl) (by kernel_rfl) (fun _ _ _ h => h) (Or.inl ⟨by rfl, ?_⟩) hHeld ?_
        rotate_left 1
        · (intro w' hSw; obtain ⟨q2, r0, r1⟩ := hSw; go_simp; first | done | with_reducible rfl)
        (try simp only [Act.put, List.setIfInBounds_toArray, List.set_cons_zero, List.set_cons_succ])
        refine wpAnyH_take (i := 4) (v := ?_) rfl (by kernel_rfl) (by kernel_rfl) (by kernel_rfl) (fun _ _ _ h => h) (Or.inl ⟨by rfl, ?_⟩) hHeld ?_
        rotate_left 1
        · (intro w' hSw; go_simp; first | done | with_reducible rfl)
        (try simp only [Act.put, List.setIfInBounds_toArray, List.set_cons_zero, List.set_cons_succ])
        refine wpAnyH_take (i := 5) (v := ?_) rfl (by kernel_rfl) (by kernel_rfl) (by kernel_rfl) (fun _ _ _ h => h) (Or.inl ⟨by rfl, ?_⟩) hHeld ?_
        rotate_left 1
        · (intro w' hSw; obtain ⟨q2, r0, r1⟩ := hSw; go_simp; first | done | with_reducible rfl)
        (try simp only [Act.put, List.setIfInBounds_toArray, List.set_cons_zero, List.set_cons_succ])
        refine wpAnyH_ready (rs := [6]) (by kernel_rfl) (by simp) ?_
        refine AllReadyH.cons rfl (fun K hK => ?_) AllReadyH.nil
        go_simp
        refine hK.out _ _ ⟨j2, z0, z1⟩ (fun hHeld => ?_)
        clear hK K
        (try simp only [Act.put, List.setIfInBounds_toArray, List.set_cons_zero, List.set_cons_succ])
        refine wpAnyH_done (by kernel_rfl) ?_ _
        go_wp2_with fail
        go_ret
        rw [HF.out]
        exact ⟨rfl, H5.out.imp (fun k hk _ => hQ2 k hk) hnP hnM, O5.out⟩
      · have HF := hide (HG2.out.trans (if_neg h0))
        have t26 : ((er : Int) == 0) = false := by rw [beq_eq_false_iff_ne]; omega
        clear h0
        go_wp2_with fail
        go_ret
        rw [HF.out]
        exact ⟨rfl, (h3.imp (fun k hk _ => hQ2 k hk) hnP hnM).mono (Nat.le_succ _), OW⟩
end Go.Proofs.Ytbgfmcmaklobaaa
