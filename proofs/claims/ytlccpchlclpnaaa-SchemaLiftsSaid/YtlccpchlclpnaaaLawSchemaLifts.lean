/- SchemaLifts: for every input the law returns true, and what was there is as it was. No condition. -/
import Derived.Test.YtlccpchlclpnaaaRows
import Derived.Test.YtlccpchlclpnaaaFrame
import Derived.Test.YtlccpchlclpnaaaFrameC
import Derived.Test.YtlccpchlclpnaaaAlive
import Derived.Test.YtlccpchlclpnaaaTwo
import Derived.Test.YtlccpchlclpnaaaGreat
namespace Go.Proofs.Ytlccpchlclpnaaa.schemaLifts
open Go.Proofs.Ytlccpchlclpnaaa
open Go.ChangeShapes Go.WideShapes Go.ChangeAt Go.RowKit
open Go.ChangeMaps (open_string shut_string)

theorem own : ownKnob Try.prog.godebug = none := by kernel_rfl
theorem laidOut : laidOutB Try.prog = true := by kernel_rfl

set_option maxRecDepth 100000 in
set_option maxHeartbeats 2000000 in
theorem walk (w : World) (id1 : UInt32) (A1 : Option Addr) (n1 c1 : Nat) (fr : List Fd) (hp0 : Rd w w.heap.size 4 A1 n1 c1 (fdsV fr)) (id2 : UInt32) (A2 : Option Addr) (n2 c2 : Nat) (to : List Fd) (hq0 : Rd w w.heap.size 4 A2 n2 c2 (fdsV to))
    (cA : Option Addr) (cn cc : Nat) (cl : List Cl) (hr0 : Rd w w.heap.size 3 cA cn cc (clsV cl)) :
    Calls Try.prog 5 #[.agg #[.int .u32 (id1.toNat : Int), .slice A1 n1 c1], .agg #[.int .u32 (id2.toNat : Int), .slice A2 n2 c2], .slice cA cn cc] w (RetVal w (.bool true)) := by
  obtain rfl := hp0.lenF
  obtain rfl := hq0.lenF
  obtain rfl := hr0.lenC
  go_enter Try.func5, Try.ntmps5
  go_wp2_with fail
  have x1 := box_new w #[.int .u32 (id1.toNat : Int), .slice A1 fr.length c1] 25
  generalize hwa : w.alloc (.cells #[.int .u32 (id1.toNat : Int), .slice A1 fr.length c1] 25) = wa at *
  have x2 := box_new wa #[.int .u32 (id2.toNat : Int), .slice A2 to.length c2] 25
  generalize hwb : wa.alloc (.cells #[.int .u32 (id2.toNat : Int), .slice A2 to.length c2] 25) = w1 at *
  have za := x1.size
  obtain ⟨cs, _, zs1, hb1⟩ := x1.lift x2.below
  obtain ⟨cn, _, zt1, _⟩ := x2.lift (Below.refl _ _)
  have sa1 : w1.cell? ⟨w.heap.size, 0, none⟩ = some (.int .u32 (id1.toNat : Int)) := cs 0 _ rfl
  have sb1 : w1.cell? ⟨w.heap.size, 1, none⟩ = some (.slice A1 fr.length c1) := cs 1 _ rfl
  have ta1 : w1.cell? ⟨wa.heap.size, 0, none⟩ = some (.int .u32 (id2.toNat : Int)) := cn 0 _ rfl
  have tb1 : w1.cell? ⟨wa.heap.size, 1, none⟩ = some (.slice A2 to.length c2) := cn 1 _ rfl
  rw [show w.heap.size + 1 = wa.heap.size by omega]
  have hp1 := (hp0.below hb1).more hb1.size
  have hq1 := (hq0.below hb1).more hb1.size
  have hr1 := (hr0.below hb1).more hb1.size
  obtain ⟨bs, hbs⟩ : ∃ bs, bs = w.heap.size := ⟨_, rfl⟩
  obtain ⟨bt, hbt⟩ : ∃ bt, bt = wa.heap.size := ⟨_, rfl⟩
  rw [← hbs] at sa1 sb1 zs1 ⊢
  rw [← hbt] at ta1 tb1 zt1 ⊢
  clear hwa hwb cs cn x1 x2 za hbs hbt hp0 hq0 hr0
  refine (alive08 w1).mono ?_
  rintro e w2 ⟨rfl, hb2⟩
  have sa2 := (hb2.cell (p := ⟨bs, 0, none⟩) zs1).trans sa1
  have sb2 := (hb2.cell (p := ⟨bs, 1, none⟩) zs1).trans sb1
  have ta2 := (hb2.cell (p := ⟨bt, 0, none⟩) zt1).trans ta1
  have tb2 := (hb2.cell (p := ⟨bt, 1, none⟩) zt1).trans tb1
  have zs2 := Nat.lt_of_lt_of_le zs1 hb2.size
  have zt2 := Nat.lt_of_lt_of_le zt1 hb2.size
  have hp2 := (hp1.below hb2).more hb2.size
  have hq2 := (hq1.below hb2).more hb2.size
  have hr2 := (hr1.below hb2).more hb2.size
  have hB2 : Below w.heap.size w w2 := below_call hb1 hb1.size hb2
  clear sa1 sb1 ta1 tb1 zs1 zt1 hp1 hq1 hr1 hb1 hb2
  go_wp2_with fail
  refine (refGreat w2 id1 _ c1 A1 fr hp2).mono ?_
  rintro e w3 ⟨g, rfl, hsm, hb3⟩
  have sa3 := (hb3.cell (p := ⟨bs, 0, none⟩) zs2).trans sa2
  have sb3 := (hb3.cell (p := ⟨bs, 1, none⟩) zs2).trans sb2
  have ta3 := (hb3.cell (p := ⟨bt, 0, none⟩) zt2).trans ta2
  have tb3 := (hb3.cell (p := ⟨bt, 1, none⟩) zt2).trans tb2
  have zs3 := Nat.lt_of_lt_of_le zs2 hb3.size
  have zt3 := Nat.lt_of_lt_of_le zt2 hb3.size
  have hp3 := (hp2.below hb3).more hb3.size
  have hq3 := (hq2.below hb3).more hb3.size
  have hr3 := (hr2.below hb3).more hb3.size
  have hB3 : Below w.heap.size w w3 := below_call hB2 hB2.size hb3
  clear sa2 sb2 ta2 tb2 zs2 zt2 hp2 hq2 hr2 hB2 hb3
  cases g with
  | true =>
    go_wp2_with fail
    go_ret
    exact ⟨rfl, hB3⟩
  | false =>
    have hl1 : fr.length ≤ 100 := (hsm rfl).1
    clear hsm
    go_wp2_with fail
    refine (refGreat w3 id2 _ c2 A2 to hq3).mono ?_
    rintro e w4 ⟨g, rfl, hsm, hb4⟩
    have sa4 := (hb4.cell (p := ⟨bs, 0, none⟩) zs3).trans sa3
    have sb4 := (hb4.cell (p := ⟨bs, 1, none⟩) zs3).trans sb3
    have ta4 := (hb4.cell (p := ⟨bt, 0, none⟩) zt3).trans ta3
    have tb4 := (hb4.cell (p := ⟨bt, 1, none⟩) zt3).trans tb3
    have zs4 := Nat.lt_of_lt_of_le zs3 hb4.size
    have zt4 := Nat.lt_of_lt_of_le zt3 hb4.size
    have hp4 := (hp3.below hb4).more hb4.size
    have hq4 := (hq3.below hb4).more hb4.size
    have hr4 := (hr3.below hb4).more hb4.size
    have hB4 : Below w.heap.size w w4 := below_call hB3 hB3.size hb4
    clear sa3 sb3 ta3 tb3 zs3 zt3 hp3 hq3 hr3 hB3 hb4
    cases g with
    | true =>
      go_wp2_with fail
      go_ret
      exact ⟨rfl, hB4⟩
    | false =>
      have hl2 : to.length ≤ 100 := (hsm rfl).1
      clear hsm
      by_cases hn : 100 < cl.length
      · have t1 : decide ((100 : Int) < (cl.length : Int)) = true := decide_eq_true (by omega)
        clear hn
        go_wp2_with fail
        go_ret
        exact ⟨rfl, hB4⟩
      have t1 : decide ((100 : Int) < (cl.length : Int)) = false := decide_eq_false (by omega)
      have hn' : cl.length ≤ 100 := by omega
      clear hn
      have cbs0 := sa4
      have cbs1 := sb4
      have cbt0 := ta4
      have cbt1 := tb4
      have zbs : bs < w4.drew.heap.size := zs4
      have zbt : bt < w4.drew.heap.size := zt4
      have hr1S := hp4
      have hr2S := hq4
      have hrC := hr4
      obtain ⟨rv, hrv0⟩ : ∃ rv, rv = cl.map valOf := ⟨_, rfl⟩
      obtain ⟨rc, hrc0⟩ : ∃ rc, rc = cl.map fixC := ⟨_, rfl⟩
      obtain ⟨lv, hlv0⟩ : ∃ lv, lv = liftRow fr to rv := ⟨_, rfl⟩
      obtain ⟨oc, hoc0⟩ : ∃ oc, oc = lv.map cellOf := ⟨_, rfl⟩
      have hll : lv.length = to.length := by rw [hlv0]; simp [liftRow]
      have hlv : lv.length ≤ 1000000 := by omega
      have hoc1 : oc = to.map (rlAt fr rc) := by rw [hoc0, hlv0, hrv0, hrc0, lift_same]
      have hol : oc.length = to.length := by rw [hoc1, List.length_map]
      have HVR : Hid (∀ e w1 w2, RetRow w1 97 1 cl.length (vlsV (cl.map valOf)) e w2 → RetRow w1 97 1 rv.length (vlsV rv) e w2) := hide (fun _ _ _ h => by rw [hrv0, List.length_map]; exact h)
      have HCR : Hid (∀ e w1 w2, RetRow w1 109 3 cl.length (clsV (cl.map fixC)) e w2 → RetRow w1 109 3 rc.length (clsV rc) e w2) := hide (fun _ _ _ h => by rw [hrc0, List.length_map]; exact h)
      have HLV : Hid (∀ e w1 w2, RetRow w1 97 1 to.length (vlsV (liftRow fr to rv)) e w2 → RetRow w1 97 1 lv.length (vlsV lv) e w2) := hide (fun _ _ _ h => by rw [hll, hlv0]; exact h)
      have HOC : Hid (∀ e w1 w2, RetRow w1 109 3 lv.length (clsV (lv.map cellOf)) e w2 → RetRow w1 109 3 oc.length (clsV oc) e w2) := hide (fun _ _ _ h => by rw [hoc0, List.length_map]; exact h)
      have HRL : Hid (∀ e w1 w2, RetRow w1 109 3 to.length (clsV (to.map (rlAt fr rc))) e w2 → RetRow w1 109 3 oc.length (clsV oc) e w2) := hide (fun _ _ _ h => by rw [hol, hoc1]; exact h)
      clear hrv0 hrc0 hlv0 hoc0 hoc1 hol hll sa4 sb4 ta4 tb4 zs4 zt4 hp4 hq4 hr4
      go_wp2_with fail
      refine wp_region_abs ext_grow (by kernel_rfl) (by kernel_rfl) ?_
      simp only [List.map_cons, List.map_nil]
      refine wpA_value ext_grow ?_ (fun _ _ h => by cases h) rfl rfl ?_ ?_
      rotate_left 1
      · intro w' hw' C hC
        have q1 := (hw'.cell (p := ⟨bs, 0, none⟩) zbs).trans cbs0
        have q2 := (hw'.cell (p := ⟨bs, 1, none⟩) zbs).trans cbs1
        go_simp
        try go_bits
        exact hC
      simp only [putS, List.set_cons_succ, List.set_cons_zero]
      refine wpA_value ext_grow ?_ (fun _ _ h => by cases h) rfl rfl ?_ ?_
      rotate_left 1
      · intro w' hw' C hC
        have q1 := (hw'.cell (p := ⟨bt, 0, none⟩) zbt).trans cbt0
        have q2 := (hw'.cell (p := ⟨bt, 1, none⟩) zbt).trans cbt1
        go_simp
        try go_bits
        exact hC
      simp only [putS, List.set_cons_succ, List.set_cons_zero]
      refine wpA_value ext_grow ?_ (fun _ _ h => by cases h) rfl rfl ?_ ?_
      rotate_left 1
      · intro w' hw' C hC
        go_simp
        try go_bits
        exact hC
      simp only [putS, List.set_cons_succ, List.set_cons_zero]
      refine wpA_known (.has (VlR rv)) (fun _ _ h => by cases h) rfl rfl (mono_vlR _) (fun w' hw' => ?_) ?_
      · go_simp
        exact ⟨Below.refl _ _, (lawRow w' _ cl.length cc cA cl (hrC.keep fun p hp => hw'.cell hp) hw'.size (by omega)).mono fun e w'' h => vlR_ret (HVR.out _ _ _ h)⟩
      simp only [putS, List.set_cons_succ, List.set_cons_zero]
      refine wpA_one 23 (VlR rv) (.has (VlR lv)) rfl (by simp) (fun _ _ h => by cases h) rfl rfl (fun _ => rfl) (mono_vlR _) (fun u w' hw' hu => ?_) ?_
      · obtain ⟨vA, vc, rfl, hrv⟩ := hu
        go_simp
        exact ⟨Below.refl _ _, (schLift w' id1 id2 _ c1 _ c2 _ vc A1 A2 vA fr to rv ((hr1S.keep fun p hp => hw'.cell hp).more hw'.size) ((hr2S.keep fun p hp => hw'.cell hp).more hw'.size) hrv (by omega) (by omega)).mono fun e w'' h => vlR_ret (HLV.out _ _ _ h)⟩
      simp only [putS, List.set_cons_succ, List.set_cons_zero]
      refine wpA_one 24 (VlR lv) (.has (ClR oc)) rfl (by simp) (fun _ _ h => by cases h) rfl rfl (fun _ => rfl) (mono_clR _) (fun u w' hw' hu => ?_) ?_
      · obtain ⟨vA, vc, rfl, hrv⟩ := hu
        go_simp
        exact ⟨Below.refl _ _, (lawCells w' _ lv.length vc vA lv hrv (Nat.le_refl _) hlv).mono fun e w'' h => clR_ret (HOC.out _ _ _ h)⟩
      simp only [putS, List.set_cons_succ, List.set_cons_zero]
      refine wpA_value ext_grow ?_ (fun _ _ h => by cases h) rfl rfl ?_ ?_
      rotate_left 1
      · intro w' hw' C hC
        have q1 := (hw'.cell (p := ⟨bs, 0, none⟩) zbs).trans cbs0
        have q2 := (hw'.cell (p := ⟨bs, 1, none⟩) zbs).trans cbs1
        go_simp
        try go_bits
        exact hC
      simp only [putS, List.set_cons_succ, List.set_cons_zero]
      refine wpA_value ext_grow ?_ (fun _ _ h => by cases h) rfl rfl ?_ ?_
      rotate_left 1
      · intro w' hw' C hC
        have q1 := (hw'.cell (p := ⟨bt, 0, none⟩) zbt).trans cbt0
        have q2 := (hw'.cell (p := ⟨bt, 1, none⟩) zbt).trans cbt1
        go_simp
        try go_bits
        exact hC
      simp only [putS, List.set_cons_succ, List.set_cons_zero]
      refine wpA_value ext_grow ?_ (fun _ _ h => by cases h) rfl rfl ?_ ?_
      rotate_left 1
      · intro w' hw' C hC
        go_simp
        try go_bits
        exact hC
      simp only [putS, List.set_cons_succ, List.set_cons_zero]
      refine wpA_known (.has (ClR rc)) (fun _ _ h => by cases h) rfl rfl (mono_clR _) (fun w' hw' => ?_) ?_
      · go_simp
        exact ⟨Below.refl _ _, (refFixRow w' _ cl.length cc cA cl (hrC.keep fun p hp => hw'.cell hp) hw'.size (by omega)).mono fun e w'' h => clR_ret (HCR.out _ _ _ h)⟩
      simp only [putS, List.set_cons_succ, List.set_cons_zero]
      refine wpA_one 29 (ClR rc) (.has (ClR oc)) rfl (by simp) (fun _ _ h => by cases h) rfl rfl (fun _ => rfl) (mono_clR _) (fun u w' hw' hu => ?_) ?_
      · obtain ⟨vA, vc, rfl, hrv⟩ := hu
        go_simp
        exact ⟨Below.refl _ _, (refLift w' id1 id2 _ c1 _ c2 _ vc A1 A2 vA fr to rc ((hr1S.keep fun p hp => hw'.cell hp).more hw'.size) ((hr2S.keep fun p hp => hw'.cell hp).more hw'.size) hrv (by omega) (by omega)).mono fun e w'' h => clR_ret (HRL.out _ _ _ h)⟩
      simp only [putS, List.set_cons_succ, List.set_cons_zero]
      refine wpA_two 25 30 (ClR oc) (ClR oc) (.is (.bool true)) rfl rfl (by simp) (by simp) (fun _ _ h => by cases h) rfl rfl rfl (by decide) (fun _ _ => rfl) (mono_is _) (fun u v w' hw' hu hv => ?_) ?_
      · obtain ⟨vA, vc, rfl, hrv⟩ := hu
        obtain ⟨uA, uc, rfl, hru⟩ := hv
        go_simp
        exact ⟨Below.refl _ _, (refSameRow w' _ vc _ uc vA uA oc hrv hru).mono fun e w'' h => is_ret h.1 h.2⟩
      simp only [putS, List.set_cons_succ, List.set_cons_zero]
      refine wpA_value ext_grow ?_ (fun _ _ h => by cases h) rfl rfl ?_ ?_
      rotate_left 1
      · intro w' hw' C hC
        go_simp
        try go_bits
        exact hC
      simp only [putS, List.set_cons_succ, List.set_cons_zero]
      intro w8 hw8
      simp only [openS]
      intro u1 _ u2 _ u3 _ u4 _ u5 _
      go_wp2_with fail
      go_ret
      exact ⟨rfl, hB4.trans (below_of_drew hw8 |>.mono hB4.size)⟩

set_option maxRecDepth 100000 in
theorem lifted (os : Os) (started : os.Started) (H : Type) (enc : TypeId × Value → H) :
    ReturnsInHanded {} Try.checked os 5 .any (Rows.schemaLiftsSpec.pre6 enc Try.prog Try.f5 Rows.schemaLiftsRow.domain false) (Rows.schemaLiftsSpec.post enc Try.prog Try.f5 false true false false) := by
  refine returnsInHanded_of_change (C := Try.checked) own started (by kernel_rfl) Try.func5
    (ChangeSpec.witness6 (enc := enc) (C := Try.checked) false ⟨#[], #[.agg #[.int .u32 0, .slice none 0 0], .agg #[.int .u32 0, .slice none 0 0], .slice none 0 0], []⟩ 8 (by kernel_rfl) (by kernel_rfl) (by kernel_rfl) (by kernel_rfl)) ?_
  intro W base args ds gs before hval0 hW hcnd _
  have hval : ∀ (j : Nat) t v, Try.f5.params[j]? = some t → args[j]? = some v → Value.okWide Try.prog W .any base t v := hval0
  have hW' := hW
  obtain ⟨p, q, hA0, hV, rfl, hfz, hnd⟩ := hW
  have hA : DataW.TrodAll enc Try.prog W 0 (fun _ => true) true Try.f5.params.toList args.toList ds p := hA0
  rw [Try.params5] at hA hval
  obtain ⟨v0, vs0, d0, ds0, p0, q0, hargs, rfl, rfl, h0, r0⟩ := trodAll_cons hA
  obtain ⟨v1, vs1, d1, ds1, p1, q1, rfl, rfl, rfl, h1, r1⟩ := trodAll_cons r0
  obtain ⟨v2, vs2, d2, ds2, p2, q2, rfl, rfl, rfl, h2, r2⟩ := trodAll_cons r1
  obtain ⟨rfl, rfl, rfl⟩ := trodAll_nil r2
  obtain rfl : args = #[v0, v1, v2] := by cases args; simp_all
  obtain ⟨rfl, rfl⟩ := trodVars_none hV
  have k0 := h0
  have lt0 : ∀ x ∈ p0, x.block < W.heap.size := by obtain ⟨m, hm⟩ := k0; exact DataW.trod_lt m _ _ _ hm
  have k1 := h1
  have lt1 : ∀ x ∈ p1, x.block < W.heap.size := by obtain ⟨m, hm⟩ := k1; exact DataW.trod_lt m _ _ _ hm
  have k2 := h2
  have lt2 : ∀ x ∈ p2, x.block < W.heap.size := by obtain ⟨m, hm⟩ := k2; exact DataW.trod_lt m _ _ _ hm
  obtain ⟨id0, A0, n0, c0, l0, rfl, w0⟩ := frame_schema (hval 0 25 v0 rfl rfl) h0
  obtain ⟨id1, A1, n1, c1, l1, rfl, w1⟩ := frame_schema (hval 1 25 v1 rfl rfl) h1
  obtain ⟨A2, n2, c2, l2, rfl, w2⟩ := frame_cells (hval 2 38 v2 rfl rfl) h2
  clear hA0 hval0
  refine (walk W id0 A0 n0 c0 l0 w0 id1 A1 n1 c1 l1 w1 A2 n2 c2 l2 w2).mono fun e W' ⟨he, bel⟩ => ?_
  subst he
  exact ⟨_, rfl, _, _, _, [], _, [], hW', trodAll_mk1 (shut_bool Try.underlying4 _), (trodAll_cons_mk (Below.trod laidOut (by kernel_rfl) (of_decide_eq_true (by kernel_rfl)) k0 bel lt0) (trodAll_cons_mk (Below.trod laidOut (by kernel_rfl) (of_decide_eq_true (by kernel_rfl)) k1 bel lt1) (trodAll_cons_mk (Below.trod laidOut (by kernel_rfl) (of_decide_eq_true (by kernel_rfl)) k2 bel lt2) trodAll_mk0))), rfl, bel.frame _, fun h => by cases h⟩

theorem over : Rows.schemaLiftsRow.holds Try.pinned (OpenSpec.ofChange Rows.schemaLiftsSpec) :=
  OpenClaim.holds_of_wide 5 Try.f5 rfl rfl rfl rfl rfl rfl rfl ⟨rfl, rfl, rfl, rfl, rfl⟩ rfl rfl rfl rfl rfl (by kernel_rfl) Try.func5 (by kernel_rfl)
    (of_decide_eq_true (by kernel_rfl)) (by unfold Func.isWrapper; first | (rw [if_pos (by decide +kernel)]; kernel_rfl) | (rw [if_neg (by decide +kernel)]; exact ⟨rfl, rfl⟩))
    (fun os started H enc _ => lifted os started H enc)

theorem proved : Rows.SchemaLiftsSaid := over
#print axioms proved
end Go.Proofs.Ytlccpchlclpnaaa.schemaLifts
