/- THE WALKS of the store's drop, Del, Swap. No statement of the seat is proved here; no condition but sizes. -/
import Derived.Test.YtbgfmcmaklobaaaObD
namespace Go.Proofs.Ytbgfmcmaklobaaa
open Go.RowKit

theorem field_b (A : Option Addr) (n c : Nat) (l : Bool) (W : World) : (Instr.field 56 (.agg #[.slice A n c, .bool l]) 0).run Try.prog W = .ok (.slice A n c) W := by kernel_rfl
theorem field_l (A : Option Addr) (n c : Nat) (l : Bool) (W : World) : (Instr.field 56 (.agg #[.slice A n c, .bool l]) 1).run Try.prog W = .ok (.bool l) W := by kernel_rfl
theorem MapR.del {P : Nat → Prop} {w : World} {mb N : Nat} {m : Mp} {D : DataW Value} (h : MapR P w mb N m D) {s : ByteArray} (hs : s.size ≤ maxLen) :
    ∃ w' D', (∀ ty, (Builtin.delete_ #[49, 9] ty #[.map (some mb), .string s]).run Try.prog w = .ok (.tuple #[]) w') ∧ MapR P w' mb N (mdel m s) D' ∧ w.grownBy w' (some mb) := by
  obtain ⟨w', hrun, hown, hmt⟩ := h.own.drop kStr kMap (key_of s hs) 0
  have hg := hmt.grown
  have hcell : ∀ p : Addr, P p.block → p.block < w.heap.size → w'.cell? p = w.cell? p := fun p hp hl => World.cell?_of_block (w := w) (hg.block p.block hl (by intro q; injection q with q; rw [q] at hp; exact h.nP hp))
  refine ⟨w', _, fun ty => ?_, ⟨hown, fun r => ?_, fun r t hrt => ?_, h.nP⟩, hg⟩
  · exact hrun
  · by_cases e : r = s
    · subst e
      rw [Maps.has_del_same]
      unfold mhas
      rw [mget_del_same]
      rfl
    · rw [Maps.has_del_other (kLit_ne e), h.has]
      unfold mhas
      rw [mget_del_other e]
  · by_cases e : r = s
    · subst e
      rw [mget_del_same] at hrt
      cases hrt
    · rw [mget_del_other e] at hrt
      obtain ⟨A2, c2, h1, h2⟩ := h.at_ r t hrt
      exact ⟨A2, c2, (Maps.atKey_del_other (kLit_ne e) _).trans h1, h2.keep hg.size hcell⟩
theorem So.drop_some {s : So} {nm : ByteArray} {t : Th} (h : mget s.m nm = some t) : s.drop nm = { s with m := mdel s.m nm, used := s.used - t.bs.length } := by unfold So.drop; rw [h]
set_option maxRecDepth 100000 in
set_option maxHeartbeats 4000000 in
theorem objDrop (P : Nat → Prop) (w : World) (sb mb N : Nat) (s : So) (h : StR P w sb mb N s) (nm : ByteArray) (hn : nm.size ≤ maxLen) (t : Th) (ht : mget s.m nm = some t) :
    Calls Try.prog 26 #[.pointer (some ⟨sb, 0, none⟩), .string nm] w fun e w' => e = .returned (.tuple #[]) ∧ StR P w' sb mb N (s.drop nm) ∧ Ost sb mb w w' := by
  have c1 := h.bx.cell 1 _ rfl
  have c2 := h.bx.cell 2 _ rfl
  have f1 := h.bx.free 1 (by simp)
  obtain ⟨D, hD⟩ := h.mp
  obtain ⟨A, c, _, hk, hr⟩ := (hD.keep (Below.refl _ w).drew).some_ ht hn
  have hdl := mget_len h.ok.di ht
  have hu := h.ok.us
  have huq := h.ok.uq
  have hq1 := h.ok.q1
  have w16 : wrap64 (s.used - (t.bs.length : Int)) = s.used - (t.bs.length : Int) := IntWalk.wrap64_in _ ⟨by omega, by omega⟩
  have HOK := hide (h.ok.drop nm)
  have hfd := field_b A t.bs.length c t.loose
  have HS := hide (So.drop_some ht)
  have hnP := h.nP
  have hne := h.ne
  have hx := h.bx
  clear ht hdl hu huq hq1 hr
  go_enter Try.func26, Try.ntmps26
  go_upto_region 0 with fail
  go_region
  have O1 := ((Oth.refl sb w).set 1 (.int .i64 (s.used - (t.bs.length : Int)))).drew
  have x1 := (hx.set (j := 1) (.int .i64 (s.used - (t.bs.length : Int))) rfl).oth (Oth.refl (sb + 1) _).drew (by omega)
  have hD1 := hD.move O1.size (O1.block mb hD.lt (fun q => hne q.symm)) (fun p hp hl => O1.cell hl (fun q => hnP (by rw [← q]; exact hp)))
  generalize (w.setCell ⟨sb, 1, none⟩ (.int .i64 (s.used - (t.bs.length : Int)))).drew = w1 at *
  obtain ⟨w2, D2, hdel, hD2, hg2⟩ := hD1.del (s := nm) hn
  have k2 := x1.cell 2 _ rfl
  have hbk : w2.heap[sb]? = w1.heap[sb]? := hg2.block sb x1.z (by intro q; injection q with q; exact hne q)
  have x2 : BoxN w2 sb [.int .i64 s.quota, .int .i64 (s.used - (t.bs.length : Int)), .map (some mb), .string s.cell, .int .i64 s.fuse, .int .i64 s.fault, .bool s.dead] := ⟨fun j v hj => (World.cell?_of_block (w := w1) (a := ⟨sb, j, none⟩) hbk).trans (x1.cell j v hj), fun j hj => (World.frozen?_of_block (w := w1) (a := ⟨sb, j, none⟩) hbk).trans (x1.free j hj), Nat.lt_of_lt_of_le x1.z hg2.size⟩
  have HX := hide (And.intro x2 (And.intro hD2 ((Ost.ofOth (mb := mb) O1).trans (Ost.map hg2))))
  clear c1 c2 f1 hk x1 x2 hD1 hD2 hg2 O1 hbk hx hD h
  go_wp2_with fail
  go_end0
  rw [HS.out] at HOK ⊢
  exact ⟨rfl, ⟨HX.out.1, ⟨D2, HX.out.2.1⟩, hnP, hne, HOK.out⟩, HX.out.2.2⟩
theorem So.del_dead {s : So} (h : s.dead = true) (nm : ByteArray) : s.del nm = (s, 120) := by unfold So.del; rw [if_pos h]
theorem So.del_none {s : So} (h : s.dead = false) {nm : ByteArray} (hg : mhas s.m nm = false) : s.del nm = (s, 2) := by unfold So.del; rw [if_neg (by rw [h]; simp), if_pos hg]
theorem So.del_on {s : So} (h : s.dead = false) {nm : ByteArray} (hg : mhas s.m nm = true) : s.del nm = if s.change.2 = 0 then (s.change.1.drop nm, 0) else s.change := by unfold So.del; rw [if_neg (by rw [h]; simp), if_neg (by rw [hg]; simp)]
set_option maxRecDepth 100000 in
set_option maxHeartbeats 4000000 in
theorem objDel (P : Nat → Prop) (w : World) (sb mb N : Nat) (s : So) (h : StR P w sb mb N s) (nm : ByteArray) (hn : nm.size ≤ maxLen) :
    Calls Try.prog 13 #[.pointer (some ⟨sb, 0, none⟩), .string nm] w (StEnd P w sb mb N (s.del nm)) := by
  have c6 := h.bx.cell 6 _ rfl
  cases hd : s.dead with
  | true =>
    rw [hd] at c6
    have HG := hide (So.del_dead hd nm)
    clear hd
    go_enter Try.func13, Try.ntmps13
    go_wp2_with fail
    go_ret
    rw [HG.out]
    exact ⟨rfl, h, Ost.refl _ _ _⟩
  | false =>
    rw [hd] at c6
    have HD := hide hd
    clear hd
    go_enter Try.func13, Try.ntmps13
    go_wp2_with fail
    refine (objHas P w sb mb N s h nm hn).mono ?_
    rintro e w1 ⟨rfl, hb1⟩
    have h1 := h.keep hb1
    clear c6 h
    cases hh : mhas s.m nm with
    | false =>
      have HG := hide (So.del_none HD.out hh)
      clear hh
      go_wp2_with fail
      go_ret
      rw [HG.out]
      exact ⟨rfl, h1, .of hb1⟩
    | true =>
      have HG := hide (So.del_on HD.out hh)
      have HH := hide hh
      clear hh
      go_wp2_with fail
      refine (objChange P w1 sb mb N s h1).mono ?_
      rintro e w3 ⟨rfl, h3, O3⟩
      obtain ⟨⟨s3, er⟩, hr3⟩ : ∃ r, s.change = r := ⟨_, rfl⟩
      have hs3 : s3.m = s.m := by have := So.change_m s; rw [hr3] at this; exact this
      rw [hr3] at h3 ⊢
      have HG2 : Hid (s.del nm = if er = 0 then (s3.drop nm, 0) else (s3, er)) := hide (by rw [HG.out, hr3])
      have OW := (Ost.of (sb := sb) (mb := mb) hb1).trans O3
      dsimp only at h3 ⊢
      obtain ⟨t, ht⟩ : ∃ t, mget s3.m nm = some t := by
        rw [hs3]
        have := HH.out
        unfold mhas at this
        exact Option.isSome_iff_exists.1 this
      clear hr3 hs3 h1 hb1 O3
      by_cases h0 : er = 0
      · subst h0
        have HF := hide (HG2.out.trans (if_pos rfl))
        go_wp2_with fail
        refine (objDrop P w3 sb mb N s3 h3 nm hn t ht).mono ?_
        rintro e w4 ⟨rfl, h4, O4⟩
        go_wp2_with fail
        go_ret
        rw [HF.out]
        exact ⟨rfl, h4, OW.trans O4⟩
      · have HF := hide (HG2.out.trans (if_neg h0))
        have t17 : ((er : Int) == 0) = false := by rw [beq_eq_false_iff_ne]; omega
        clear h0
        go_wp2_with fail
        go_ret
        rw [HF.out]
        exact ⟨rfl, h3, OW⟩
theorem So.swap_dead {s : So} (h : s.dead = true) (o n : ByteArray) : s.swap o n = (s, 120) := by unfold So.swap; rw [if_pos h]
theorem So.swap_other {s : So} (h : s.dead = false) {o : ByteArray} (n : ByteArray) (hc : (s.cell.toList == o.toList) = false) : s.swap o n = (s, 123) := by unfold So.swap; rw [if_neg (by rw [h]; simp), if_pos hc]
theorem So.swap_name {s : So} (h : s.dead = false) {o n : ByteArray} (hc : (s.cell.toList == o.toList) = true) (hn : pathOk n = false) : s.swap o n = (s, 1) := by unfold So.swap; rw [if_neg (by rw [h]; simp), if_neg (by rw [hc]; simp), if_pos hn]
theorem So.swap_on {s : So} (h : s.dead = false) {o n : ByteArray} (hc : (s.cell.toList == o.toList) = true) (hn : pathOk n = true) : s.swap o n = if s.change.2 = 0 then ({ s.change.1 with cell := n }, 0) else s.change := by unfold So.swap; rw [if_neg (by rw [h]; simp), if_neg (by rw [hc]; simp), if_neg (by rw [hn]; simp)]
set_option maxRecDepth 100000 in
set_option maxHeartbeats 4000000 in
theorem objSwap (P : Nat → Prop) (w : World) (sb mb N : Nat) (s : So) (h : StR P w sb mb N s) (o nw : ByteArray) :
    Calls Try.prog 21 #[.pointer (some ⟨sb, 0, none⟩), .string o, .string nw] w (StEnd P w sb mb N (s.swap o nw)) := by
  have c6 := h.bx.cell 6 _ rfl
  have c3 := h.bx.cell 3 _ rfl
  cases hd : s.dead with
  | true =>
    rw [hd] at c6
    have HG := hide (So.swap_dead hd o nw)
    clear hd
    go_enter Try.func21, Try.ntmps21
    go_wp2_with fail
    go_ret
    rw [HG.out]
    exact ⟨rfl, h, Ost.refl _ _ _⟩
  | false =>
    rw [hd] at c6
    have HD := hide hd
    clear hd
    cases t19 : (s.cell.toList == o.toList) with
    | false =>
      have HG := hide (So.swap_other HD.out nw t19)
      go_enter Try.func21, Try.ntmps21
      go_wp2_with fail
      go_ret
      rw [HG.out]
      exact ⟨rfl, h, Ost.refl _ _ _⟩
    | true =>
      have HC := hide t19
      go_enter Try.func21, Try.ntmps21
      go_wp2_with fail
      refine (objNamed w nw).mono ?_
      rintro e w1 ⟨rfl, hb1⟩
      have h1 := h.keep hb1
      clear c6 c3 h t19
      cases hp : pathOk nw with
      | false =>
        have HG := hide (So.swap_name HD.out HC.out hp)
        clear hp
        go_wp2_with fail
        go_ret
        rw [HG.out]
        exact ⟨rfl, h1, .of hb1⟩
      | true =>
        have HG := hide (So.swap_on HD.out HC.out hp)
        clear hp
        go_wp2_with fail
        refine (objChange P w1 sb mb N s h1).mono ?_
        rintro e w3 ⟨rfl, h3, O3⟩
        obtain ⟨⟨s3, er⟩, hr3⟩ : ∃ r, s.change = r := ⟨_, rfl⟩
        rw [hr3] at h3 ⊢
        have HG2 : Hid (s.swap o nw = if er = 0 then ({ s3 with cell := nw }, 0) else (s3, er)) := hide (by rw [HG.out, hr3])
        have OW := (Ost.of (sb := sb) (mb := mb) hb1).trans O3
        dsimp only at h3 ⊢
        clear hr3 h1 hb1 O3
        by_cases h0 : er = 0
        · subst h0
          have HF := hide (HG2.out.trans (if_pos rfl))
          have k3 := h3.bx.cell 3 _ rfl
          have f3 := h3.bx.free 3 (by simp)
          go_wp2_with fail
          go_ret
          rw [HF.out]
          obtain ⟨a, b, c, d, e, f, g, i, j⟩ := h3.ok
          exact ⟨rfl, h3.box ((Oth.refl sb w3).set 3 _) rfl ⟨a, b, c, d, e, f, g, i, j⟩ (h3.bx.set (j := 3) (.string nw) rfl), OW.trans (.ofOth ((Oth.refl sb w3).set 3 _))⟩
        · have HF := hide (HG2.out.trans (if_neg h0))
          have t27 : ((er : Int) == 0) = false := by rw [beq_eq_false_iff_ne]; omega
          clear h0
          go_wp2_with fail
          go_ret
          rw [HF.out]
          exact ⟨rfl, h3, OW⟩
end Go.Proofs.Ytbgfmcmaklobaaa
