/- ObjectRoom: for every input the law returns true, and what was there is as it was. No condition. -/
import Derived.Test.YtbgfmcmaklobaaaRows
import Derived.Test.YtbgfmcmaklobaaaObFr
import Derived.Test.YtbgfmcmaklobaaaObH
import Derived.Test.YtbgfmcmaklobaaaObA
namespace Go.Proofs.Ytbgfmcmaklobaaa.objectRoom
open Go.Proofs.Ytbgfmcmaklobaaa
open Go.ChangeShapes Go.WideShapes Go.ChangeAt Go.RowKit
open Go.ChangeMaps (open_string shut_string)

theorem own : ownKnob Try.prog.godebug = none := by kernel_rfl
theorem laidOut : laidOutB Try.prog = true := by kernel_rfl

def RoomR (w : World) (sb mb rb : Nat) (q : Int) (iv : Value) (wr : World) : Prop :=
  ∃ (k : Nat) (s : So) (r : Rf) (lb N : Nat), iv = .int .i64 (k : Int) ∧ k ≤ 60 ∧ Du wr sb mb rb lb N s r ∧ r.L.length ≤ k ∧ s.m.length ≤ k ∧ s.small ∧ s.quota = max 0 q ∧ N ≤ k * 100 ∧ w.heap.size ≤ lb ∧ Below w.heap.size w wr
set_option maxRecDepth 100000 in
set_option maxHeartbeats 8000000 in
theorem walk (w : World) (q : Int) (q0 : -9223372036854775808 ≤ q) (q9 : q ≤ 9223372036854775807) (A : Option Addr) (c : Nat) (l : List Opn) (hr : Rd w w.heap.size 6 A l.length c (opsV l)) (hins : ∀ o ∈ l, OpR w w.heap.size o) :
    Calls Try.prog 5 #[.int .i64 q, .slice A l.length c] w (RetVal w (.bool true)) := by
  have hll : l.length ≤ 9223372036854775807 := by have h1 := hr.le; have h2 := hr.cap; unfold maxLen at h2; omega
  go_enter Try.func5, Try.ntmps5
  go_wp2_with fail
  refine (alive12 _).mono ?_
  rintro e w1 ⟨rfl, hb1⟩
  go_wp2_with fail
  refine (objNew (fun _ => False) w1 q q0 q9 (fun k hk => hk.elim)).mono ?_
  rintro e w2 ⟨rfl, hS2, hB2, hz2⟩
  obtain ⟨sb, hsb⟩ : ∃ b, b = w1.heap.size + 1 := ⟨_, rfl⟩
  obtain ⟨mb, hmb⟩ : ∃ b, b = w1.heap.size := ⟨_, rfl⟩
  have hb2 := below_call hb1 hb1.size hB2
  have z1 : sb < w2.heap.size := by omega
  have z2 : mb < w2.heap.size := by omega
  have y1 : w.heap.size ≤ sb := by have := hb1.size; omega
  have y2 : w.heap.size ≤ mb := by have := hb1.size; omega
  rw [← hsb, ← hmb] at hS2
  rw [← hsb]
  clear hsb hmb hz2 hB2 hb1
  clear w1
  go_wp2_with fail
  refine (refNewO w2 sb mb ⟨z1, z2⟩ q ⟨q0, q9⟩).mono ?_
  rintro e w3 ⟨rfl, hR3, hB3, hz3⟩
  have hb3 := below_call hb2 hb2.size hB3
  obtain ⟨rb, hrb⟩ : ∃ b, b = w2.heap.size := ⟨_, rfl⟩
  have y3 : w.heap.size ≤ rb := by have := hb2.size; omega
  rw [← hrb] at hR3 ⊢
  have hD : Du w3 sb mb rb rb 0 (So.new q) ⟨max 0 q, none, 0, [], ⟨#[]⟩, -1, -1, false⟩ := ⟨⟨_, hS2.keep hB3, id, id⟩, hR3⟩
  have hsm0 : (So.new q).small := fun p hp => by cases hp
  have HR := hide hr
  clear hS2 hR3 hB3 hb2 hz3 hrb z1 z2 hr
  clear w2
  go_wp2_with fail
  go_loopw [4, 7] (fun v4 iv wr => v4 = .bool false ∧ RoomR w sb mb rb q iv wr) (fun _ iv _ => 60 - (intOf iv).toNat)
  case atStart => exact ⟨rfl, 0, _, _, rb, 0, rfl, Nat.zero_le _, hD, Nat.le_refl _, Nat.le_refl _, hsm0, rfl, Nat.zero_le _, y3, hb3⟩
  case round =>
    clear hD hsm0 hb3
    clear w3
    obtain ⟨rfl, k, s, r, lb, N, rfl, hk, hD, hL, hM, hsm, hq, hN, hlb, hb⟩ := hrel
    have htest : Hid (k < l.length ∧ k < 60 ∨ ¬ (k < l.length ∧ k < 60)) := hide (Classical.em _)
    rcases htest.out with ⟨hlt, h60⟩ | hno
    · obtain ⟨b, off, rfl, hbb, hx⟩ := Rd.el opV 6 opV_length (HR.out.below hb) hlt (by omega)
      have hoR := hins (l.getD k default) (by rw [List.getD_eq_getElem?_getD, List.getElem?_eq_getElem hlt]; exact List.getElem_mem hlt)
      generalize l.getD k default = o at *
      have x0 := hx 0 _ rfl
      rw [Nat.add_zero] at x0
      have x1 := hx 1 _ rfl
      have x2 := hx 2 _ rfl
      have x3 := hx 3 _ rfl
      have x4 := hx 4 _ rfl
      have x5 := hx 5 _ rfl
      have hlt2 : decide ((k : Int) < 60) = true := decide_eq_true (by omega)
      have hol : o.bs.length ≤ 9223372036854775807 := by have h1 := hoR.b.le; have h2 := hoR.b.cap; unfold maxLen at h2; omega
      have HGR := lawGreat12 wr o hol hoR.z1 hoR.z2
      simp only [opV] at HGR
      have HO := hide hoR
      have HD := hide hD
      have HB := hide hb
      clear hx hoR hD hb hol
      go_wp2_with fail
      refine HGR.mono ?_
      rintro e w4 ⟨rfl, hb4⟩
      clear HGR
      cases hg : o.great with
      | true =>
        clear hg
        go_wp2_with fail
        go_ret
        exact ⟨rfl, below_call HB.out HB.out.size hb4⟩
      | false =>
        have hD4 := HD.out.keep hb4
        have hb5 := below_call HB.out HB.out.size hb4
        have hb4c := fun (j : Nat) => hb4.cell (p := ⟨b, j, none⟩) (Nat.lt_of_lt_of_le hbb HB.out.size)
        have g1 : o.bs.length ≤ 70000 ∧ o.nm.size ≤ 1000 ∧ o.old.size ≤ 1000 := by
          unfold Opn.great at hg
          simp at hg
          omega
        replace x0 := (hb4c _).trans x0
        replace x1 := (hb4c _).trans x1
        replace x2 := (hb4c _).trans x2
        replace x3 := (hb4c _).trans x3
        replace x4 := (hb4c _).trans x4
        replace x5 := (hb4c _).trans x5
        have HDo := lawDo12 w4 w.heap.size sb mb rb lb N s r hD4 (by omega) (by omega) hsm (by omega) hb5.size ⟨y1, y2, y3, hlb⟩ o g1.1 g1.2.1 g1.2.2 HO.out.n (HO.out.b.below hb5) (HO.out.k.below hb5)
        simp only [opV] at HDo
        have HB5 := hide hb5
        clear hg hb4c hb4 hD4 hb5 g1
        go_wp2_with fail
        refine HDo.mono ?_
        rintro e w5 ⟨bb, s', r', lb', N', rfl, hD5, hL5, hle, hN5, hQ, hlb5⟩
        clear HDo x0 x1 x2 x3 x4 x5
        obtain ⟨P, hS5, _⟩ := hD5.st
        have hok := hS5.ok
        have hus := hok.us
        have huq := hok.uq
        have hqe : s'.quota = max 0 q := hle.quota.trans hq
        have t1 : decide (max 0 q < s'.used) = false := decide_eq_false (by omega)
        have t2 : decide (s'.used < 0) = false := decide_eq_false (by omega)
        have hb6 := HB5.out.trans (hQ.below y1 y2 y3 hlb HB5.out.size)
        have HF := hide (And.intro hD5 (And.intro hb6 (And.intro hlb5 HB5.out.size)))
        have hlen := hle.len
        have hsm5 := hle.small hsm
        have HQE := hide hqe
        have HLB : Hid (w.heap.size ≤ lb') := hide (by
          rcases hlb5 with q | q
          · omega
          · exact Nat.le_trans HB5.out.size q)
        clear hD5 hb6 hQ hlb5 hus huq hok hle hsm hqe
        go_wp2_with fail
        refine (objUsed P w5 sb mb N' s' hS5).mono ?_
        rintro e w6 ⟨rfl, rfl⟩
        go_wp2_with fail
        refine (objUsed P w5 sb mb N' s' hS5).mono ?_
        rintro e w6 ⟨rfl, rfl⟩
        go_wp2_with fail
        go_roundw
        case rel => exact ⟨rfl, k + 1, s', r', lb', N', by go_num, by omega, HF.out.1, by omega, by omega, hsm5, HQE.out, by omega, HLB.out, HF.out.2.1⟩
        case measure => simp [intOf]; omega
    · have hex : Hid (∀ (P : Prop), (k < l.length → ¬ k < 60 → P) → (¬ k < l.length → P) → P) := hide (fun P h1 h2 => by
        by_cases hc : k < l.length
        · exact h1 hc (fun h6 => hno ⟨hc, h6⟩)
        · exact h2 hc)
      obtain ⟨P, hS, _⟩ := hD.st
      have hsz := hb.size
      have hlo := loose_len s.m
      have HB := hide hb
      have HB0 := hide hsz
      clear htest hno hD hb hins HR
      have HT : Calls Try.prog 19 #[.pointer (some ⟨sb, 0, none⟩), .slice none 0 0] wr fun e w' => e = .returned (.tuple #[]) ∧ StR P w' sb mb (N + (looseM s.m).length) (s.crash []) ∧ Ost sb mb wr w' := objCrash P wr sb mb N s hS none 0 [] (fun wx _ => Rd.nil _ _ _) (by omega)
      have hle := le_crash s []
      have hcl := crash_calm s []
      have hN2 : N + (looseM s.m).length ≤ 10000 := by omega
      generalize s.crash [] = s1 at *
      generalize N + (looseM s.m).length = N1 at *
      have hsm1 := hle.small hsm
      clear hlo hle hsm hq hM hL hN hS
      have HC := hide hcl
      have HSM := hide hsm1
      clear hcl hsm1
      have HT := hide HT
      refine hex.out _ (fun h1 h2 => ?_) (fun h1 => ?_)
      · have t60 : decide ((k : Int) < 60) = false := decide_eq_false (by omega)
        clear hex h2 hk
        go_wp2_with fail
        refine HT.out.mono ?_
        rintro e w2 ⟨rfl, hS2, O2⟩
        have hb2 := HB.out.trans (O2.below y1 y2 HB0.out)
        go_wp2_with fail
        refine (objList P w2 sb mb N1 s1 hS2 (by omega)).mono ?_
        rintro e w3 ⟨hb3, A3, c3, rfl, hr3, how⟩
        rw [So.list_on HC.out.dead] at hr3 how ⊢
        dsimp only at hr3 how ⊢
        rw [show ((0 : Nat) : Int) = 0 from rfl]
        have hS3 := hS2.keep hb3
        have hszs : ∀ x ∈ namesM s1.m, x.size ≤ maxLen := fun x hx => by obtain ⟨D, hD⟩ := hS2.mp; exact hD.size hx hS2.ok.di
        obtain ⟨ns, hns⟩ : ∃ ns, ns = namesM s1.m := ⟨_, rfl⟩
        rw [← hns] at hr3 how hszs ⊢
        have hsb2 : sb < w2.heap.size := hS2.bx.z
        have hmb2 : mb < w2.heap.size := hS2.mlt
        have hdi := hS2.ok.di
        have hb4 := below_call hb2 hb2.size hb3
        have HNS := hide (And.intro hns (And.intro hszs hdi))
        have HB4 := hide hb4
        have hnl : ns.length ≤ 9223372036854775807 := by have h1 := hr3.le; have h2 := hr3.cap; unfold maxLen at h2; omega
        clear hns hszs hdi hS2 O2 hb2 hb3 hb4
        go_wp2_with fail
        go_loopw [4, 10] (fun v4 iv wr2 => v4 = .bool false ∧ ∃ j : Nat, iv = .int .i64 (j : Int) ∧ j ≤ ns.length ∧ StR P wr2 sb mb N1 (dropN s1 ns j) ∧ Ost sb mb w3 wr2) (fun _ iv _ => ns.length - (intOf iv).toNat)
        case atStart => exact ⟨rfl, 0, rfl, Nat.zero_le _, hS3, Ost.refl _ _ _⟩
        case round =>
          clear hS3
          obtain ⟨rfl, j, rfl, hj, hSj, hO⟩ := hrel
          by_cases hjl : j < ns.length
          · obtain ⟨b, off, rfl, hb, hc⟩ := hr3.at_ (by omega)
            obtain ⟨nm, hnm⟩ : ∃ nm, ns.getD j ByteArray.empty = nm := ⟨_, rfl⟩
            have hnk : ns[j]? = some nm := by rw [← hnm, List.getD_eq_getElem?_getD, List.getElem?_eq_getElem hjl]; rfl
            have hcell := (hO.cell (p := ⟨b, off + j, none⟩) hb (fun q => how sb hsb2 (congrArg some q.symm)) (fun q => how mb hmb2 (congrArg some q.symm))).trans (hc j (.string nm) (by unfold strsV; rw [List.getElem?_map, hnk]; rfl))
            have hnms := HNS.out.2.1 nm (List.mem_of_getElem? hnk)
            have hdel : (dropN s1 ns j).del nm = (dropN s1 ns (j + 1), 0) := by
              rw [(dropN_calm HC.out ns j).del (by rw [← hnm]; exact dropN_at HNS.out.2.2 HNS.out.1 hjl), ← hnm]
              rfl
            have HDL := objDel P wr sb mb N1 (dropN s1 ns j) hSj nm hnms
            rw [hdel] at HDL
            clear hc hnk hnm hb hdel hnms
            go_wp2_with fail
            refine HDL.mono ?_
            rintro e w5 ⟨rfl, hS5, O5⟩
            clear hSj HDL hcell
            go_wp2_with fail
            go_roundw
            case rel => exact ⟨rfl, j + 1, by go_num, hjl, hS5, hO.trans O5⟩
            case measure => simp [intOf]; omega
          · obtain rfl : j = ns.length := by omega
            have hu := dropN_used HNS.out.1 hSj.ok
            have HU := objUsed P wr sb mb N1 _ hSj
            rw [hu] at HU
            have hb6 := HB4.out.trans (hO.below y1 y2 HB4.out.size)
            clear hu hSj hO hr3 how
            go_wp2_with fail
            refine HU.mono ?_
            rintro e w5 ⟨rfl, rfl⟩
            clear HU
            go_wp2_with fail
            go_ret
            exact ⟨rfl, hb6⟩
      · clear hex hk
        go_wp2_with fail
        refine HT.out.mono ?_
        rintro e w2 ⟨rfl, hS2, O2⟩
        have hb2 := HB.out.trans (O2.below y1 y2 HB0.out)
        go_wp2_with fail
        refine (objList P w2 sb mb N1 s1 hS2 (by omega)).mono ?_
        rintro e w3 ⟨hb3, A3, c3, rfl, hr3, how⟩
        rw [So.list_on HC.out.dead] at hr3 how ⊢
        dsimp only at hr3 how ⊢
        rw [show ((0 : Nat) : Int) = 0 from rfl]
        have hS3 := hS2.keep hb3
        have hszs : ∀ x ∈ namesM s1.m, x.size ≤ maxLen := fun x hx => by obtain ⟨D, hD⟩ := hS2.mp; exact hD.size hx hS2.ok.di
        obtain ⟨ns, hns⟩ : ∃ ns, ns = namesM s1.m := ⟨_, rfl⟩
        rw [← hns] at hr3 how hszs ⊢
        have hsb2 : sb < w2.heap.size := hS2.bx.z
        have hmb2 : mb < w2.heap.size := hS2.mlt
        have hdi := hS2.ok.di
        have hb4 := below_call hb2 hb2.size hb3
        have HNS := hide (And.intro hns (And.intro hszs hdi))
        have HB4 := hide hb4
        have hnl : ns.length ≤ 9223372036854775807 := by have h1 := hr3.le; have h2 := hr3.cap; unfold maxLen at h2; omega
        clear hns hszs hdi hS2 O2 hb2 hb3 hb4
        go_wp2_with fail
        go_loopw [4, 10] (fun v4 iv wr2 => v4 = .bool false ∧ ∃ j : Nat, iv = .int .i64 (j : Int) ∧ j ≤ ns.length ∧ StR P wr2 sb mb N1 (dropN s1 ns j) ∧ Ost sb mb w3 wr2) (fun _ iv _ => ns.length - (intOf iv).toNat)
        case atStart => exact ⟨rfl, 0, rfl, Nat.zero_le _, hS3, Ost.refl _ _ _⟩
        case round =>
          clear hS3
          obtain ⟨rfl, j, rfl, hj, hSj, hO⟩ := hrel
          by_cases hjl : j < ns.length
          · obtain ⟨b, off, rfl, hb, hc⟩ := hr3.at_ (by omega)
            obtain ⟨nm, hnm⟩ : ∃ nm, ns.getD j ByteArray.empty = nm := ⟨_, rfl⟩
            have hnk : ns[j]? = some nm := by rw [← hnm, List.getD_eq_getElem?_getD, List.getElem?_eq_getElem hjl]; rfl
            have hcell := (hO.cell (p := ⟨b, off + j, none⟩) hb (fun q => how sb hsb2 (congrArg some q.symm)) (fun q => how mb hmb2 (congrArg some q.symm))).trans (hc j (.string nm) (by unfold strsV; rw [List.getElem?_map, hnk]; rfl))
            have hnms := HNS.out.2.1 nm (List.mem_of_getElem? hnk)
            have hdel : (dropN s1 ns j).del nm = (dropN s1 ns (j + 1), 0) := by
              rw [(dropN_calm HC.out ns j).del (by rw [← hnm]; exact dropN_at HNS.out.2.2 HNS.out.1 hjl), ← hnm]
              rfl
            have HDL := objDel P wr sb mb N1 (dropN s1 ns j) hSj nm hnms
            rw [hdel] at HDL
            clear hc hnk hnm hb hdel hnms
            go_wp2_with fail
            refine HDL.mono ?_
            rintro e w5 ⟨rfl, hS5, O5⟩
            clear hSj HDL hcell
            go_wp2_with fail
            go_roundw
            case rel => exact ⟨rfl, j + 1, by go_num, hjl, hS5, hO.trans O5⟩
            case measure => simp [intOf]; omega
          · obtain rfl : j = ns.length := by omega
            have hu := dropN_used HNS.out.1 hSj.ok
            have HU := objUsed P wr sb mb N1 _ hSj
            rw [hu] at HU
            have hb6 := HB4.out.trans (hO.below y1 y2 HB4.out.size)
            clear hu hSj hO hr3 how
            go_wp2_with fail
            refine HU.mono ?_
            rintro e w5 ⟨rfl, rfl⟩
            clear HU
            go_wp2_with fail
            go_ret
            exact ⟨rfl, hb6⟩

set_option maxRecDepth 100000 in
theorem lifted (os : Os) (started : os.Started) (H : Type) (enc : TypeId × Value → H) :
    ReturnsInHanded {} Try.checked os 5 .any (Rows.objectRoomSpec.pre6 enc Try.prog Try.f5 Rows.objectRoomRow.domain false) (Rows.objectRoomSpec.post enc Try.prog Try.f5 false true false false) := by
  refine returnsInHanded_of_change (C := Try.checked) own started (by kernel_rfl) Try.func5
    (ChangeSpec.witness6 (enc := enc) (C := Try.checked) false ⟨#[], #[.int .i64 0, .slice none 0 0], []⟩ 8 (by kernel_rfl) (by kernel_rfl) (by kernel_rfl) (by kernel_rfl)) ?_
  intro W base args ds gs before hval0 hW hcnd _
  have hval : ∀ (j : Nat) t v, Try.f5.params[j]? = some t → args[j]? = some v → Value.okWide Try.prog W .any base t v := hval0
  have hW' := hW
  obtain ⟨p, q, hA0, hV, rfl, hfz, hnd⟩ := hW
  have hA : DataW.TrodAll enc Try.prog W 0 (fun _ => true) true Try.f5.params.toList args.toList ds p := hA0
  rw [Try.params5] at hA hval
  obtain ⟨v0, vs0, d0, ds0, p0, q0, hargs, rfl, rfl, h0, r0⟩ := trodAll_cons hA
  obtain ⟨v1, vs1, d1, ds1, p1, q1, rfl, rfl, rfl, h1, r1⟩ := trodAll_cons r0
  obtain ⟨rfl, rfl, rfl⟩ := trodAll_nil r1
  obtain rfl : args = #[v0, v1] := by cases args; simp_all
  obtain ⟨rfl, rfl⟩ := trodVars_none hV
  have k0 := h0
  have lt0 : ∀ x ∈ p0, x.block < W.heap.size := by obtain ⟨m, hm⟩ := k0; exact DataW.trod_lt m _ _ _ hm
  have k1 := h1
  have lt1 : ∀ x ∈ p1, x.block < W.heap.size := by obtain ⟨m, hm⟩ := k1; exact DataW.trod_lt m _ _ _ hm
  obtain ⟨a0, rfl, hd0, hp0, w0⟩ := open_int Try.underlying3 (hval 0 3 v0 rfl rfl) h0
  obtain ⟨A1, c1, l1, rfl, w1, i1⟩ := frame_ops (hval 1 35 v1 rfl rfl) h1
  clear hA0 hval0
  refine (walk W a0 (bounds_i64 w0).1 (bounds_i64 w0).2 A1 c1 l1 w1 i1).mono fun e W' ⟨he, bel⟩ => ?_
  subst he
  exact ⟨_, rfl, _, _, _, [], _, [], hW', trodAll_mk1 (shut_bool Try.underlying4 _), (trodAll_cons_mk (Below.trod laidOut (by kernel_rfl) (of_decide_eq_true (by kernel_rfl)) k0 bel lt0) (trodAll_cons_mk (Below.trod laidOut (by kernel_rfl) (of_decide_eq_true (by kernel_rfl)) k1 bel lt1) trodAll_mk0)), rfl, bel.frame _, fun h => by cases h⟩

theorem over : Rows.objectRoomRow.holds Try.pinned (OpenSpec.ofChange Rows.objectRoomSpec) :=
  OpenClaim.holds_of_wide 5 Try.f5 rfl rfl rfl rfl rfl rfl rfl ⟨rfl, rfl, rfl, rfl, rfl⟩ rfl rfl rfl rfl rfl (by kernel_rfl) Try.func5 (by kernel_rfl)
    (of_decide_eq_true (by kernel_rfl)) (by unfold Func.isWrapper; first | (rw [if_pos (by decide +kernel)]; kernel_rfl) | (rw [if_neg (by decide +kernel)]; exact ⟨rfl, rfl⟩))
    (fun os started H enc _ => lifted os started H enc)

theorem proved : Rows.ObjectRoomSaid := over
#print axioms proved
end Go.Proofs.Ytbgfmcmaklobaaa.objectRoom
