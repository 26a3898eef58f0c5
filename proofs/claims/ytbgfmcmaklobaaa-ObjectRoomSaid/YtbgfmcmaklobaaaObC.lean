/- THE WALKS of the store's Get and Put. No statement of the seat is proved here; no condition but sizes. -/
import Derived.Test.YtbgfmcmaklobaaaObS
namespace Go.Proofs.Ytbgfmcmaklobaaa
open Go.RowKit

theorem rdp_own {P : Nat → Prop} {w : World} {base n c : Nat} {A : Option Addr} {l : List UInt8} (h : w.ownsRow base 5 1 (.slice A n c) n (bytesV l)) (hi : ∀ k, base ≤ k → P k) : RdP w P A n c l := by
  obtain ⟨A', c', q, hr⟩ := Rd.of_own h
  injection q with q1 q2 q3
  subst q1 q3
  refine ⟨hr, fun hn => ?_⟩
  obtain ⟨g, cap, q, hb, _⟩ := h.form hn
  injection q with q1 _ _
  exact ⟨g, 0, q1, hi g hb⟩
/-- the map turned: what is left of a store -/
theorem StR.map2 {P : Nat → Prop} {w w' : World} {sb mb N N2 : Nat} {s : So} {m2 : Mp} {D2 : DataW Value} (h : StR P w sb mb N s) (hg : w.grownBy w' (some mb)) (hM : MapR P w' mb N2 m2 D2) :
    BoxN w' sb [.int .i64 s.quota, .int .i64 s.used, .map (some mb), .string s.cell, .int .i64 s.fuse, .int .i64 s.fault, .bool s.dead] ∧ (∃ D, MapR P w' mb N2 m2 D) ∧ ¬ P sb ∧ sb ≠ mb := by
  have hbk : w'.heap[sb]? = w.heap[sb]? := hg.block sb h.bx.z (by intro q; injection q with q; exact h.ne q)
  exact ⟨⟨fun j v hj => (World.cell?_of_block (w := w) (a := ⟨sb, j, none⟩) hbk).trans (h.bx.cell j v hj), fun j hj => (World.frozen?_of_block (w := w) (a := ⟨sb, j, none⟩) hbk).trans (h.bx.free j hj), Nat.lt_of_lt_of_le h.bx.z hg.size⟩, ⟨D2, hM⟩, h.nP, h.ne⟩
theorem So.get_dead {s : So} (h : s.dead = true) (nm : ByteArray) : s.get nm = ([], 120) := by unfold So.get; rw [if_pos h]
theorem So.get_none {s : So} (h : s.dead = false) {nm : ByteArray} (hg : mget s.m nm = none) : s.get nm = ([], 2) := by unfold So.get; rw [if_neg (by rw [h]; simp), hg]
theorem So.get_some {s : So} (h : s.dead = false) {nm : ByteArray} {t : Th} (hg : mget s.m nm = some t) : s.get nm = (t.bs, 0) := by unfold So.get; rw [if_neg (by rw [h]; simp), hg]
theorem RdP.low {P : Nat → Prop} {w w' : World} {A : Option Addr} {n c : Nat} {l : List UInt8} (h : RdP w P A n c l) (hb : Below w.heap.size w w') : RdP w' P A n c l := h.keep hb.size fun _ _ hl => hb.cell hl
theorem RdP.ost {w w' : World} {sb mb : Nat} {A : Option Addr} {n c : Nat} {l : List UInt8} (h : RdP w (fun k => k ≠ sb ∧ k ≠ mb) A n c l) (ho : Ost sb mb w w') : RdP w' (fun k => k ≠ sb ∧ k ≠ mb) A n c l := h.keep ho.size fun p hp hl => ho.cell hl hp.1 hp.2
theorem addEnd {P : Nat → Prop} {w : World} {sb mb N : Nat} {s : So} {nm : ByteArray} {bs : List UInt8} (hx : BoxN w sb [.int .i64 s.quota, .int .i64 s.used, .map (some mb), .string s.cell, .int .i64 s.fuse, .int .i64 s.fault, .bool s.dead]) (hD : ∃ D, MapR P w mb N (mput s.m nm ⟨bs, true⟩) D) (h1 : ¬ P sb) (h2 : sb ≠ mb) (hk : (s.add nm bs).ok) :
    StR P (w.setCell ⟨sb, 1, none⟩ (.int .i64 (s.used + (bs.length : Int)))) sb mb N (s.add nm bs) := by
  obtain ⟨D, hD⟩ := hD
  have ho := (Oth.refl sb w).set 1 (.int .i64 (s.used + (bs.length : Int)))
  exact ⟨hx.set (j := 1) (.int .i64 (s.used + (bs.length : Int))) rfl, ⟨D, hD.move ho.size (ho.block mb hD.lt (fun q => h2 q.symm)) (fun p hp hl => ho.cell hl (fun q => h1 (by rw [← q]; exact hp)))⟩, h1, h2, hk⟩
def GetEnd (w : World) (r : List UInt8 × Nat) (e : Ending) (w' : World) : Prop :=
  Below w.heap.size w w' ∧ ∃ A c, e = .returned (.tuple #[.slice A r.1.length c, .int .i64 (r.2 : Int)]) ∧ w'.ownsRow w.heap.size 5 1 (.slice A r.1.length c) r.1.length (bytesV r.1)
set_option maxRecDepth 100000 in
set_option maxHeartbeats 2000000 in
theorem objGet (P : Nat → Prop) (w : World) (sb mb N : Nat) (s : So) (h : StR P w sb mb N s) (nm : ByteArray) (hn : nm.size ≤ maxLen) (hl : ∀ t, mget s.m nm = some t → t.bs.length ≤ 1000000) : Calls Try.prog 9 #[.pointer (some ⟨sb, 0, none⟩), .string nm] w (GetEnd w (s.get nm)) := by
  have c2 := h.bx.cell 2 _ rfl
  have c6 := h.bx.cell 6 _ rfl
  obtain ⟨D, hD⟩ := h.mp
  cases hd : s.dead with
  | true =>
    rw [hd] at c6
    have HG := hide (So.get_dead hd nm)
    clear hd hD h
    go_enter Try.func9, Try.ntmps9
    go_wp2_with fail
    go_ret2
    rw [HG.out]
    exact ⟨Below.refl _ _, none, 0, rfl, World.ownsRow_nil _ _ _ _⟩
  | false =>
    rw [hd] at c6
    cases hg : mget s.m nm with
    | none =>
      have hk := (hD.none hg hn).1
      have HG := hide (So.get_none hd hg)
      unfold zTh at hk
      clear hg hD hd h
      go_enter Try.func9, Try.ntmps9
      go_wp2_with fail
      go_ret2
      rw [HG.out]
      exact ⟨(Below.refl _ _).alloc (Nat.le_refl _) _, none, 0, rfl, World.ownsRow_nil _ _ _ _⟩
    | some t =>
      obtain ⟨A, c, hk, _, hr⟩ := hD.some_ hg hn
      have HG := hide (So.get_some hd hg)
      have hlt := hl t hg
      have hb1 := (Below.refl w.heap.size w).alloc (Nat.le_refl _) (.cells #[.slice A t.bs.length c, .bool t.loose] 56)
      have hr1 := (hr.rd.below hb1).more hb1.size
      have y := boxN_new w #[.slice A t.bs.length c, .bool t.loose] 56
      have y0 := y.cell 0 _ rfl
      clear hg hD hd h hr y hl
      go_enter Try.func9, Try.ntmps9
      go_wp2_with fail
      generalize w.alloc (.cells #[.slice A t.bs.length c, .bool t.loose] 56) = w1 at *
      refine (cloneBytes w1 w1.heap.size _ c A _ hr1 (bytesV_one _) (by omega) (Nat.le_refl _)).mono ?_
      rintro e w2 ⟨v2, rfl, hown2, hb2⟩
      obtain ⟨A2, c2, rfl⟩ := own_slice hown2
      go_wp2_with fail
      go_ret2
      rw [HG.out]
      exact ⟨below_call hb1 hb1.size hb2, A2, c2, rfl, own_base hown2 hb1.size⟩
theorem So.put_dead {s : So} (h : s.dead = true) (nm : ByteArray) (bs : List UInt8) : s.put nm bs = (s, 120) := by unfold So.put; rw [if_pos h]
theorem So.put_name {s : So} (h : s.dead = false) {nm : ByteArray} (h1 : pathOk nm = false) (bs : List UInt8) : s.put nm bs = (s, 1) := by unfold So.put; rw [if_neg (by rw [h]; simp), if_pos h1]
theorem So.put_there {s : So} (h : s.dead = false) {nm : ByteArray} (h1 : pathOk nm = true) (h2 : mhas s.m nm = true) (bs : List UInt8) : s.put nm bs = (s, 3) := by unfold So.put; rw [if_neg (by rw [h]; simp), if_neg (by rw [h1]; simp), if_pos h2]
theorem So.put_long {s : So} (h : s.dead = false) {nm : ByteArray} (h1 : pathOk nm = true) (h2 : mhas s.m nm = false) {bs : List UInt8} (h3 : 65536 < bs.length) : s.put nm bs = (s, 5) := by unfold So.put; rw [if_neg (by rw [h]; simp), if_neg (by rw [h1]; simp), if_neg (by rw [h2]; simp), if_pos h3]
theorem So.put_quota {s : So} (h : s.dead = false) {nm : ByteArray} (h1 : pathOk nm = true) (h2 : mhas s.m nm = false) {bs : List UInt8} (h3 : ¬ 65536 < bs.length) (h4 : s.quota - s.used < bs.length) : s.put nm bs = (s, 122) := by unfold So.put; rw [if_neg (by rw [h]; simp), if_neg (by rw [h1]; simp), if_neg (by rw [h2]; simp), if_neg h3, if_pos h4]
theorem So.put_on {s : So} (h : s.dead = false) {nm : ByteArray} (h1 : pathOk nm = true) (h2 : mhas s.m nm = false) {bs : List UInt8} (h3 : ¬ 65536 < bs.length) (h4 : ¬ s.quota - s.used < bs.length) : s.put nm bs = if s.change.2 = 121 then s.change else (s.change.1.add nm bs, s.change.2) := by unfold So.put; rw [if_neg (by rw [h]; simp), if_neg (by rw [h1]; simp), if_neg (by rw [h2]; simp), if_neg h3, if_neg h4]
set_option maxRecDepth 100000 in
set_option maxHeartbeats 4000000 in
theorem objPut (P : Nat → Prop) (w : World) (sb mb N : Nat) (s : So) (h : StR P w sb mb N s) (hP : ∀ k, w.heap.size ≤ k → P k) (hN : N ≤ 1000000) (nm : ByteArray) (hn : nm.size ≤ maxLen) (A : Option Addr) (c : Nat) (bs : List UInt8) (hr : RdP w (fun k => k ≠ sb ∧ k ≠ mb) A bs.length c bs) :
    Calls Try.prog 8 #[.pointer (some ⟨sb, 0, none⟩), .string nm, .slice A bs.length c] w (StEnd P w sb mb (N + 1) (s.put nm bs)) := by
  have c6 := h.bx.cell 6 _ rfl
  have hbl : bs.length ≤ 9223372036854775807 := by have h1 := hr.rd.le; have h2 := hr.rd.cap; unfold maxLen at h2; omega
  cases hd : s.dead with
  | true =>
    rw [hd] at c6
    have HG := hide (So.put_dead hd nm bs)
    clear hd
    go_enter Try.func8, Try.ntmps8
    go_wp2_with fail
    go_ret
    rw [HG.out]
    exact ⟨rfl, h.mono (Nat.le_succ _), Ost.refl _ _ _⟩
  | false =>
  rw [hd] at c6
  have HD := hide hd
  clear hd
  go_enter Try.func8, Try.ntmps8
  go_wp2_with fail
  refine (objNamed w nm).mono ?_
  rintro e w1 ⟨rfl, hb1⟩
  have h1 := h.keep hb1
  have hP1 : ∀ k, w1.heap.size ≤ k → P k := fun k hk => hP k (Nat.le_trans hb1.size hk)
  have hr1 := hr.low hb1
  clear c6 h hr
  cases hp : pathOk nm with
  | false =>
    have HG := hide (So.put_name HD.out hp bs)
    clear hp
    go_wp2_with fail
    go_ret
    rw [HG.out]
    exact ⟨rfl, h1.mono (Nat.le_succ _), .of hb1⟩
  | true =>
  have HP := hide hp
  clear hp
  go_wp2_with fail
  refine (objHas P w1 sb mb N s h1 nm hn).mono ?_
  rintro e w2 ⟨rfl, hb2⟩
  have h2 := h1.keep hb2
  have hP2 : ∀ k, w2.heap.size ≤ k → P k := fun k hk => hP1 k (Nat.le_trans hb2.size hk)
  have hr2 := hr1.low hb2
  have hb12 := below_call hb1 hb1.size hb2
  clear h1 hr1 hb1 hb2 hP1
  clear w1
  cases hh : mhas s.m nm with
  | true =>
    have HG := hide (So.put_there HD.out HP.out hh bs)
    clear hh
    go_wp2_with fail
    go_ret
    rw [HG.out]
    exact ⟨rfl, h2.mono (Nat.le_succ _), .of hb12⟩
  | false =>
  have HH := hide hh
  clear hh
  by_cases hlong : 65536 < bs.length
  · have t24 : decide ((65536 : Int) < (bs.length : Int)) = true := decide_eq_true (by omega)
    have HG := hide (So.put_long HD.out HP.out HH.out hlong)
    clear hlong
    go_wp2_with fail
    go_ret
    rw [HG.out]
    exact ⟨rfl, h2.mono (Nat.le_succ _), .of hb12⟩
  have t24 : decide ((65536 : Int) < (bs.length : Int)) = false := decide_eq_false (by omega)
  have HLG := hide hlong
  have hbl6 : bs.length ≤ 65536 := by omega
  clear hlong
  obtain ⟨q1, q2, q3, q4, q5, q6, q7, q8, q9⟩ := h2.ok
  have w36 : wrap64 (s.quota - s.used) = s.quota - s.used := IntWalk.wrap64_in _ ⟨by omega, by omega⟩
  have c0 := h2.bx.cell 0 _ rfl
  have c1 := h2.bx.cell 1 _ rfl
  have hu0 : 0 ≤ s.used := by omega
  clear q3 q5 q6 q7 q8 q9
  obtain ⟨qb, hqb⟩ : ∃ b, b = decide (s.quota - s.used < (bs.length : Int)) := ⟨_, rfl⟩
  have t37 : decide (s.quota - s.used < (bs.length : Int)) = qb := hqb.symm
  have HQB := hide hqb
  clear hqb
  go_upto_region 9 with fail
  go_quiet (fail)
  generalize hwD : w2.drewN nq = w2d at *
  have h2d : StR P w2d sb mb N s := by rw [← hwD]; exact h2.keep (below_dN (Below.refl _ _) _)
  have hb12d : Below w.heap.size w w2d := by rw [← hwD]; exact below_dN hb12 _
  have hr2d : RdP w2d (fun k => k ≠ sb ∧ k ≠ mb) A bs.length c bs := by rw [← hwD]; exact hr2.low (below_dN (Below.refl _ _) _)
  have hP2d : ∀ k, w2d.heap.size ≤ k → P k := fun k hk => hP2 k (by rw [← hwD] at hk; exact hk)
  clear hwD h2 hb12 hr2 hP2 c0 c1 w36
  clear w2
  cases qb with
  | true =>
    have HG := hide (So.put_quota HD.out HP.out HH.out HLG.out (of_decide_eq_true HQB.out.symm))
    clear t37
    go_wp2_with fail
    go_ret
    rw [HG.out]
    exact ⟨rfl, h2d.mono (Nat.le_succ _), .of hb12d⟩
  | false =>
  have hroom : ¬ s.quota - s.used < (bs.length : Int) := of_decide_eq_false HQB.out.symm
  have HG := hide (So.put_on HD.out HP.out HH.out HLG.out hroom)
  have HRM := hide hroom
  clear t37 hroom
  go_wp2_with fail
  refine (objChange P w2d sb mb N s h2d).mono ?_
  rintro e w3 ⟨rfl, h3, O3⟩
  have O3w := (Ost.of (sb := sb) (mb := mb) hb12d).trans O3
  have hP3 : ∀ k, w3.heap.size ≤ k → P k := fun k hk => hP2d k (Nat.le_trans O3.size hk)
  obtain ⟨⟨s3, er⟩, hr3⟩ : ∃ r, s.change = r := ⟨_, rfl⟩
  have hs3 : s3.m = s.m ∧ s3.used = s.used ∧ s3.quota = s.quota := by have := So.change_m s; have := So.change_used s; have := So.change_quota s; rw [hr3] at *; exact ⟨by assumption, by assumption, by assumption⟩
  have HR3 := hide hr3
  have HS3 := hide hs3
  rw [hr3] at h3 ⊢
  have HG2 : Hid (s.put nm bs = if er = 121 then (s3, er) else (s3.add nm bs, er)) := hide (by rw [HG.out, hr3])
  dsimp only at h3 ⊢
  have hrow := hr2d.ost O3
  clear hr2d h2d hb12d hP2d hr3 hs3
  by_cases h121 : er = 121
  · subst h121
    have HF := hide (HG2.out.trans (if_pos rfl))
    go_wp2_with fail
    go_ret
    rw [HF.out]
    exact ⟨rfl, h3.mono (Nat.le_succ _), O3w⟩
  have HF := hide (HG2.out.trans (if_neg h121))
  have t41 : ((er : Int) != 121) = true := by rw [bne_iff_ne]; omega
  have hok : (s3.add nm bs).ok := h3.ok.add (by
    rw [HS3.out.1]
    have := HH.out
    unfold mhas at this
    cases hq : mget s.m nm with
    | none => rfl
    | some t => rw [hq] at this; cases this) (by rw [HS3.out.2.1, HS3.out.2.2]; have := HRM.out; omega)
  have HOK := hide hok
  have hud : 0 ≤ s3.used ∧ s3.used + (bs.length : Int) ≤ 9223372036854775807 := by
    have a := HS3.out.2.1
    have b := HRM.out
    have d := h3.ok.uq
    have d2 := h3.ok.q1
    have d3 := HS3.out.2.2
    constructor
    · omega
    · omega
  have w56 : wrap64 (s3.used + (bs.length : Int)) = s3.used + (bs.length : Int) := IntWalk.wrap64_in _ ⟨by omega, by omega⟩
  have hrD := (hrow.low (Below.refl _ w3).drew).rd
  have h3d := h3.drew
  have k2 := h3d.bx.cell 2 _ rfl
  have HO3 := hide O3w.drew
  clear h121 hok O3 O3w hrow hud
  go_upto_region 13 with fail
  refine wp_region_held_drew (S := (fun w' => w'.cell? ⟨sb, 2, none⟩ = some (.map (some mb)))) (by kernel_rfl) ?_ (fun hHeld => ?_)
  · exact k2
  refine wpAnyH_take (i := 0) (v := ?_) rfl (by kernel_rfl) (by kernel_rfl) (by kernel_rfl) (fun _ _ _ h => h) (Or.inl ⟨by rfl, ?_⟩) hHeld ?_
  rotate_left 1
  · (intro w' hSw; go_simp; first | done | with_reducible rfl)
  (try simp only [Act.put, List.setIfInBounds_toArray, List.set_cons_zero, List.set_cons_succ])
  refine wpAnyH_take (i := 1) (v := ?_) rfl (by kernel_rfl) (by kernel_rfl) (by kernel_rfl) (fun _ _ _ h => h) (Or.inl ⟨by rfl, ?_⟩) hHeld ?_
  rotate_left 1
  · (intro w' hSw; go_simp; first | done | with_reducible rfl)
  (try simp only [Act.put, List.setIfInBounds_toArray, List.set_cons_zero, List.set_cons_succ])
  refine wpAnyH_take (i := 2) (v := ?_) rfl (by kernel_rfl) (by kernel_rfl) (by kernel_rfl) (fun _ _ _ h => h) (Or.inl ⟨by rfl, ?_⟩) hHeld ?_
  rotate_left 1
  · (intro w' hSw; go_simp; first | done | with_reducible rfl)
  (try simp only [Act.put, List.setIfInBounds_toArray, List.set_cons_zero, List.set_cons_succ])
  refine wpAnyH_take (i := 3) (v := ?_) rfl (by kernel_rfl) (by kernel_rfl) (by kernel_rfl) (fun _ _ _ h => h) (Or.inl ⟨by rfl, ?_⟩) hHeld ?_
  rotate_left 1
  · (intro w' hSw; have q2 : w'.cell? ⟨sb, 2, none⟩ = some (.map (some mb)) := hSw; go_simp; first | done | with_reducible rfl)
  (try simp only [Act.put, List.setIfInBounds_toArray, List.set_cons_zero, List.set_cons_succ])
  refine wpAnyH_take (i := 4) (v := ?_) rfl (by kernel_rfl) (by kernel_rfl) (by kernel_rfl) (fun _ _ _ h => h) (Or.inl ⟨by rfl, ?_⟩) hHeld ?_
  rotate_left 1
  · (intro w' hSw; go_simp; first | done | with_reducible rfl)
  (try simp only [Act.put, List.setIfInBounds_toArray, List.set_cons_zero, List.set_cons_succ])
  refine wpAnyH_take (i := 5) (v := ?_) rfl (by kernel_rfl) (by kernel_rfl) (by kernel_rfl) (fun _ _ _ h => h) (Or.inl ⟨by rfl, ?_⟩) hHeld ?_
  rotate_left 1
  · (intro w' hSw; go_simp; first | done | with_reducible rfl)
  (try simp only [Act.put, List.setIfInBounds_toArray, List.set_cons_zero, List.set_cons_succ])
  refine wpAnyH_ready (rs := [6]) (by kernel_rfl) (by simp) ?_
  refine AllReadyH.cons rfl (fun K hK => ?_) AllReadyH.nil
  go_simp
  go_at_call 25
  refine (cloneBytes w3.drew w3.drew.heap.size _ c A _ hrD (bytesV_one _) (by omega) (Nat.le_refl _)).mono ?_
  rintro e w4 ⟨v4, rfl, hown4, hb4⟩
  obtain ⟨A4, c4, rfl⟩ := own_slice hown4
  have h4 := h3d.keep hb4
  have k4 := h4.bx.cell 2 _ rfl
  have hr4 := rdp_own hown4 (fun k hk => hP3 k hk)
  obtain ⟨D4, hD4⟩ := h4.mp
  obtain ⟨w5, D5, hrun, hD5, hg5⟩ := hD4.put (lo := true) (s := nm) hN hn hr4
  have hk5 : ({ s3 with m := mput s3.m nm ⟨bs, true⟩ } : So).m = mput s3.m nm ⟨bs, true⟩ := rfl
  have h5 := h4.map2 hg5 hD5
  have k5 := h5.1.cell 2 _ rfl
  have HO5 := hide ((HO3.out.trans (.of hb4)).trans (Ost.map hg5))
  have H5 := hide h5
  clear h5 h4 hown4 hb4 hD4 hD5 hg5 hr4 hk5
  refine hK.out _ _ k4 (fun hHeld => ?_)
  clear hK K
  (try simp only [Act.put, List.setIfInBounds_toArray, List.set_cons_zero, List.set_cons_succ])
  refine wpAnyH_take (i := 7) (v := ?_) rfl (by kernel_rfl) (by kernel_rfl) (by kernel_rfl) (fun _ _ _ h => h) (Or.inl ⟨by rfl, ?_⟩) hHeld ?_
  rotate_left 1
  · (intro w' hSw; go_simp; first | done | with_reducible rfl)
  (try simp only [Act.put, List.setIfInBounds_toArray, List.set_cons_zero, List.set_cons_succ])
  refine wpAnyH_ready (rs := [8]) (by kernel_rfl) (by simp) ?_
  refine AllReadyH.cons rfl (fun K hK => ?_) AllReadyH.nil
  go_simp
  refine hK.out _ _ k5 (fun hHeld => ?_)
  clear hK K
  (try simp only [Act.put, List.setIfInBounds_toArray, List.set_cons_zero, List.set_cons_succ])
  refine wpAnyH_done (by kernel_rfl) ?_ _
  obtain ⟨hx5, hD5, hn5, hne5⟩ := H5.out
  have k1 := hx5.cell 1 _ rfl
  have f1 := hx5.free 1 (by simp)
  clear k4 k5 k2 h3 h3d hrD
  go_wp2_with fail
  go_ret
  rw [HF.out]
  exact ⟨rfl, addEnd hx5 hD5 hn5 hne5 HOK.out, HO5.out.trans (.ofOth ((Oth.refl sb _).set 1 _))⟩
end Go.Proofs.Ytbgfmcmaklobaaa
