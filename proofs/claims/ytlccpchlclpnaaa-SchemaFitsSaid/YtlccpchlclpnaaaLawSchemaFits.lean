/- SchemaFits: for every input the law returns true, and what was there is as it was. No condition. -/
import Derived.Test.YtlccpchlclpnaaaRows
import Derived.Test.YtlccpchlclpnaaaFrame
import Derived.Test.YtlccpchlclpnaaaFrameC
import Derived.Test.YtlccpchlclpnaaaAlive
import Derived.Test.YtlccpchlclpnaaaRFit
import Derived.Test.YtlccpchlclpnaaaGreat
namespace Go.Proofs.Ytlccpchlclpnaaa.schemaFits
open Go.Proofs.Ytlccpchlclpnaaa
open Go.ChangeShapes Go.WideShapes Go.ChangeAt Go.RowKit
open Go.ChangeMaps (open_string shut_string)

theorem own : ownKnob Try.prog.godebug = none := by kernel_rfl
theorem laidOut : laidOutB Try.prog = true := by kernel_rfl

def VlR (l : List Vl) (v : Value) (w : World) : Prop := ∃ A c, v = .slice A l.length c ∧ Rd w w.heap.size 1 A l.length c (vlsV l)
theorem mono_vlR (l : List Vl) : (Slot.has (VlR l)).mono Ext := fun _ _ _ he ⟨A, c, e, h⟩ => ⟨A, c, e, (h.below he).more he.size⟩
theorem vlR_ret {l : List Vl} {e : Ending} {w w' : World} (h : RetRow w 97 1 l.length (vlsV l) e w') : ∃ v, e = .returned v ∧ Ext w w' ∧ (Slot.has (VlR l)).holds v w' := by
  obtain ⟨v, rfl, ho, hb⟩ := h
  obtain ⟨A, c, rfl, hr⟩ := Rd.of_own ho
  exact ⟨_, rfl, hb, A, c, rfl, hr⟩
def ClR (l : List Cl) (v : Value) (w : World) : Prop := ∃ A c, v = .slice A l.length c ∧ Rd w w.heap.size 3 A l.length c (clsV l)
theorem mono_clR (l : List Cl) : (Slot.has (ClR l)).mono Ext := fun _ _ _ he ⟨A, c, e, h⟩ => ⟨A, c, e, (h.below he).more he.size⟩
theorem clR_ret {l : List Cl} {e : Ending} {w w' : World} (h : RetRow w 109 3 l.length (clsV l) e w') : ∃ v, e = .returned v ∧ Ext w w' ∧ (Slot.has (ClR l)).holds v w' := by
  obtain ⟨v, rfl, ho, hb⟩ := h
  obtain ⟨A, c, rfl, hr⟩ := Rd.of_own ho
  exact ⟨_, rfl, hb, A, c, rfl, hr⟩
set_option maxRecDepth 100000 in
set_option maxHeartbeats 2000000 in
theorem walk (w : World) (id : UInt32) (A : Option Addr) (n c : Nat) (l : List Fd) (hr : Rd w w.heap.size 4 A n c (fdsV l)) (cA : Option Addr) (cn cc : Nat) (cl : List Cl) (hc : Rd w w.heap.size 3 cA cn cc (clsV cl)) (i : Int) (i0 : 0 ≤ i) (i1 : i ≤ 4294967295) :
    Calls Try.prog 4 #[.agg #[.int .u32 (id.toNat : Int), .slice A n c], .slice cA cn cc, .int .u32 i] w (RetVal w (.bool true)) := by
  obtain rfl := hr.lenF
  obtain rfl := hc.lenC
  obtain ⟨ix, rfl⟩ := Int.eq_ofNat_of_zero_le i0
  have hix : ix < 4294967296 := by omega
  clear i0 i1
  go_enter Try.func4, Try.ntmps4
  go_wp2_with fail
  have x1 := box_new w #[.int .u32 (id.toNat : Int), .slice A l.length c] 25
  generalize hwa : w.alloc (.cells #[.int .u32 (id.toNat : Int), .slice A l.length c] 25) = wa at *
  obtain ⟨cs, _, zs, hb1⟩ := x1.lift (Below.refl _ _)
  have s0 : wa.cell? ⟨w.heap.size, 0, none⟩ = some (.int .u32 (id.toNat : Int)) := cs 0 _ rfl
  have s1 : wa.cell? ⟨w.heap.size, 1, none⟩ = some (.slice A l.length c) := cs 1 _ rfl
  have hr1 := (hr.below hb1).more hb1.size
  have hc1 := (hc.below hb1).more hb1.size
  obtain ⟨bs, hbs⟩ : ∃ bs, bs = w.heap.size := ⟨_, rfl⟩
  rw [← hbs] at s0 s1 zs ⊢
  clear hwa cs x1 hbs hr hc
  refine (alive08 wa).mono ?_
  rintro e w2 ⟨rfl, hb2⟩
  have sa := (hb2.cell (p := ⟨bs, 0, none⟩) zs).trans s0
  have sb := (hb2.cell (p := ⟨bs, 1, none⟩) zs).trans s1
  have z2 : bs < w2.heap.size := Nat.lt_of_lt_of_le zs hb2.size
  have hr2 := (hr1.below hb2).more hb2.size
  have hc2 := (hc1.below hb2).more hb2.size
  have hB2 : Below w.heap.size w w2 := below_call hb1 hb1.size hb2
  clear s0 s1 zs hr1 hc1 hb1 hb2
  go_wp2_with fail
  refine (refGreat w2 id _ c A l hr2).mono ?_
  rintro e w3 ⟨g, rfl, hsm, hb3⟩
  have sa3 := (hb3.cell (p := ⟨bs, 0, none⟩) z2).trans sa
  have sb3 := (hb3.cell (p := ⟨bs, 1, none⟩) z2).trans sb
  have z3 : bs < w3.heap.size := Nat.lt_of_lt_of_le z2 hb3.size
  have hr3 := (hr2.below hb3).more hb3.size
  have hc3 := (hc2.below hb3).more hb3.size
  have hB3 : Below w.heap.size w w3 := below_call hB2 hB2.size hb3
  clear sa sb z2 hr2 hc2 hB2 hb3
  cases g with
  | true =>
    go_wp2_with fail
    go_ret
    exact ⟨rfl, hB3⟩
  | false =>
    have hl100 : l.length ≤ 100 := (hsm rfl).1
    by_cases hn : 100 < cl.length
    · have t1 : decide ((100 : Int) < (cl.length : Int)) = true := decide_eq_true (by omega)
      clear hn hsm
      go_wp2_with fail
      go_ret
      exact ⟨rfl, hB3⟩
    · have t1 : decide ((100 : Int) < (cl.length : Int)) = false := decide_eq_false (by omega)
      have hn' : cl.length ≤ 100 := by omega
      clear hn hsm
      go_wp2_with fail
      refine (schPlace w3 id _ c A l hr3 (by omega) ix hix).mono ?_
      rintro e w4 ⟨rfl, hb4⟩
      have sa4 := (hb4.cell (p := ⟨bs, 0, none⟩) z3).trans sa3
      have sb4 := (hb4.cell (p := ⟨bs, 1, none⟩) z3).trans sb3
      have z4 : bs < w4.heap.size := Nat.lt_of_lt_of_le z3 hb4.size
      have hr4 := (hr3.below hb4).more hb4.size
      have hc4 := (hc3.below hb4).more hb4.size
      have hB4 : Below w.heap.size w w4 := below_call hB3 hB3.size hb4
      clear sa3 sb3 z3 hr3 hc3 hB3 hb4
      obtain ⟨pl, hpl⟩ : ∃ pl, pl = placeOf ix l := ⟨_, rfl⟩
      rw [← hpl]
      have HPL := hide hpl
      clear hpl
      have hpl1 : -1 ≤ pl := by rw [HPL.out]; exact (idxF_lt _ l).1
      have hcase : pl = -1 ∨ ∃ q : Nat, pl = (q : Int) := by
        by_cases h : 0 ≤ pl
        · exact .inr ⟨pl.toNat, by omega⟩
        · exact .inl (by omega)
      obtain ⟨pm, hpm⟩ : ∃ pm, pm = max pl 0 := ⟨_, rfl⟩
      obtain ⟨pb, hpb⟩ : ∃ pb, pb = decide (0 ≤ pl) := ⟨_, rfl⟩
      rw [← hpm, ← hpb]
      have hpm' := hpm.symm
      have hpb' := hpb.symm
      have HPM := hide (And.intro hpm' hpb')
      clear hpm hpb hpm' hpb'
      go_wp2_with fail
      refine (refPlace w4 id _ c A l hr4 (by omega) ix).mono ?_
      rintro e w5 ⟨rfl, hb5⟩
      rw [← HPL.out]
      have cbs0 := (hb5.cell (p := ⟨bs, 0, none⟩) z4).trans sa4
      have cbs1 := (hb5.cell (p := ⟨bs, 1, none⟩) z4).trans sb4
      have zbs : bs < w5.drew.heap.size := Nat.lt_of_lt_of_le z4 hb5.size
      have hrS := (hr4.below hb5).more hb5.size
      have hrC := (hc4.below hb5).more hb5.size
      have hB5 : Below w.heap.size w w5 := below_call hB4 hB4.size hb5
      clear sa4 sb4 z4 hr4 hc4 hB4 hb5
      obtain ⟨rv, hrv0⟩ : ∃ rv, rv = cl.map valOf := ⟨_, rfl⟩
      obtain ⟨rc, hrc0⟩ : ∃ rc, rc = cl.map fixC := ⟨_, rfl⟩
      have hvr : ∀ e w1 w2, RetRow w1 97 1 cl.length (vlsV (cl.map valOf)) e w2 → RetRow w1 97 1 rv.length (vlsV rv) e w2 := fun _ _ _ h => by rw [hrv0, List.length_map]; exact h
      have hcr : ∀ e w1 w2, RetRow w1 109 3 cl.length (clsV (cl.map fixC)) e w2 → RetRow w1 109 3 rc.length (clsV rc) e w2 := fun _ _ _ h => by rw [hrc0, List.length_map]; exact h
      obtain ⟨fe, hfe⟩ : ∃ fe, fe = fitErr l rv := ⟨_, rfl⟩
      have hfe2 : rfErr l rc = fe := by rw [hfe, hrc0, hrv0, fit_same]
      have HFE2 := hide hfe2
      have HVR := hide hvr
      have HCR := hide hcr
      clear hrv0 hrc0 hvr hcr hfe2
      have HFE := hide hfe.symm
      clear hfe
      go_wp2_with fail
      have hif : (if pl < 0 then (0 : Int) else pl) = pm := by rw [← HPM.out.1]; split <;> omega
      have HIF := hide hif
      clear hif
      have hpb' : decide (0 ≤ pl) = pb := HPM.out.2

      refine wp_region_abs ext_grow (by kernel_rfl) (by kernel_rfl) ?_
      simp only [List.map_cons, List.map_nil]
      refine wpA_value ext_grow ?_ (fun _ _ h => by cases h) rfl rfl ?_ ?_
      rotate_left 1
      · intro w' hw' C hC
        have q1 := (hw'.cell (p := ⟨bs, 0, none⟩) zbs).trans cbs0
        have q2 := (hw'.cell (p := ⟨bs, 1, none⟩) zbs).trans cbs1
        go_simp
        try go_bits
        exact hC
      simp only [putS, List.set_cons_succ, List.set_cons_zero]
      refine wpA_value ext_grow ?_ (fun _ _ h => by cases h) rfl rfl ?_ ?_
      rotate_left 1
      · intro w' hw' C hC
        go_simp
        try go_bits
        exact hC
      simp only [putS, List.set_cons_succ, List.set_cons_zero]
      refine wpA_known (.has (VlR rv)) (fun _ _ h => by cases h) rfl rfl (mono_vlR _) (fun w' hw' => ?_) ?_
      · go_simp
        exact ⟨Below.refl _ _, (lawRow w' _ cl.length cc cA cl (hrC.keep fun p hp => hw'.cell hp) hw'.size (by omega)).mono fun e w'' h => vlR_ret (HVR.out _ _ _ h)⟩
      simp only [putS, List.set_cons_succ, List.set_cons_zero]
      refine wpA_one 30 (VlR rv) (.is (.int .i64 (fe : Int))) rfl (by simp) (fun _ _ h => by cases h) rfl rfl (fun _ => rfl) (mono_is _) (fun u w' hw' hu => ?_) ?_
      · obtain ⟨vA, vc, rfl, hrv⟩ := hu
        go_simp
        exact ⟨Below.refl _ _, (schFit w' id _ c A l ((hrS.keep fun p hp => hw'.cell hp).more hw'.size) _ vc vA _ hrv).mono fun e w'' h => is_ret (by rw [h.1, HFE.out]) h.2⟩
      simp only [putS, List.set_cons_succ, List.set_cons_zero]
      refine wpA_value ext_grow ?_ (fun _ _ h => by cases h) rfl rfl ?_ ?_
      rotate_left 1
      · intro w' hw' C hC
        have q1 := (hw'.cell (p := ⟨bs, 0, none⟩) zbs).trans cbs0
        have q2 := (hw'.cell (p := ⟨bs, 1, none⟩) zbs).trans cbs1
        go_simp
        try go_bits
        exact hC
      simp only [putS, List.set_cons_succ, List.set_cons_zero]
      refine wpA_value ext_grow ?_ (fun _ _ h => by cases h) rfl rfl ?_ ?_
      rotate_left 1
      · intro w' hw' C hC
        go_simp
        try go_bits
        exact hC
      simp only [putS, List.set_cons_succ, List.set_cons_zero]
      refine wpA_known (.has (ClR rc)) (fun _ _ h => by cases h) rfl rfl (mono_clR _) (fun w' hw' => ?_) ?_
      · go_simp
        exact ⟨Below.refl _ _, (refFixRow w' _ cl.length cc cA cl (hrC.keep fun p hp => hw'.cell hp) hw'.size (by omega)).mono fun e w'' h => clR_ret (HCR.out _ _ _ h)⟩
      simp only [putS, List.set_cons_succ, List.set_cons_zero]
      refine wpA_one 34 (ClR rc) (.is (.int .i64 (fe : Int))) rfl (by simp) (fun _ _ h => by cases h) rfl rfl (fun _ => rfl) (mono_is _) (fun u w' hw' hu => ?_) ?_
      · obtain ⟨vA, vc, rfl, hrv⟩ := hu
        go_simp
        exact ⟨Below.refl _ _, (refFit w' id _ c A l ((hrS.keep fun p hp => hw'.cell hp).more hw'.size) _ vc vA _ hrv).mono fun e w'' h => is_ret (by rw [h.1, HFE2.out]) h.2⟩
      simp only [putS, List.set_cons_succ, List.set_cons_zero]
      refine wpA_value ext_grow ?_ (fun _ _ h => by cases h) rfl rfl ?_ ?_
      rotate_left 1
      · intro w' hw' C hC
        go_simp
        try go_bits
        exact hC
      simp only [putS, List.set_cons_succ, List.set_cons_zero]
      refine wpA_value ext_grow ?_ (fun _ _ h => by cases h) rfl rfl ?_ ?_
      rotate_left 1
      · intro w' hw' C hC
        go_simp
        try go_bits
        exact hC
      simp only [putS, List.set_cons_succ, List.set_cons_zero]
      refine wpA_value ext_grow ?_ (fun _ _ h => by cases h) rfl rfl ?_ ?_
      rotate_left 1
      · intro w' hw' C hC
        go_simp
        try go_bits
        exact hC
      simp only [putS, List.set_cons_succ, List.set_cons_zero]
      refine wpA_value ext_grow ?_ (fun _ _ h => by cases h) rfl rfl ?_ ?_
      rotate_left 1
      · intro w' hw' C hC
        go_simp
        try go_bits
        exact hC
      simp only [putS, List.set_cons_succ, List.set_cons_zero]
      refine wpA_value ext_grow ?_ (fun _ _ h => by cases h) rfl rfl ?_ ?_
      rotate_left 1
      · intro w' hw' C hC
        go_simp
        try go_bits
        exact hC
      simp only [putS, List.set_cons_succ, List.set_cons_zero]
      refine wpA_value ext_grow ?_ (fun _ _ h => by cases h) rfl rfl ?_ ?_
      rotate_left 1
      · intro w' hw' C hC
        go_simp
        try go_bits
        exact hC
      simp only [putS, List.set_cons_succ, List.set_cons_zero]
      refine wpA_value ext_grow ?_ (fun _ _ h => by cases h) rfl rfl ?_ ?_
      rotate_left 1
      · intro w' hw' C hC
        go_simp
        try go_bits
        exact hC
      simp only [putS, List.set_cons_succ, List.set_cons_zero]
      refine wpA_value ext_grow ?_ (fun _ _ h => by cases h) rfl rfl ?_ ?_
      rotate_left 1
      · intro w' hw' C hC
        go_simp
        try go_bits
        exact hC
      simp only [putS, List.set_cons_succ, List.set_cons_zero]
      refine wpA_value ext_grow ?_ (fun _ _ h => by cases h) rfl rfl ?_ ?_
      rotate_left 1
      · intro w' hw' C hC
        go_simp
        try go_bits
        exact hC
      simp only [putS, List.set_cons_succ, List.set_cons_zero]
      refine wpA_value ext_grow ?_ (fun _ _ h => by cases h) rfl rfl ?_ ?_
      rotate_left 1
      · intro w' hw' C hC
        go_simp
        try go_bits
        exact hC
      simp only [putS, List.set_cons_succ, List.set_cons_zero]
      refine wpA_value ext_grow ?_ (fun _ _ h => by cases h) rfl rfl ?_ ?_
      rotate_left 1
      · intro w' hw' C hC
        have q := HIF.out
        go_simp
        try go_bits
        exact hC
      simp only [putS, List.set_cons_succ, List.set_cons_zero]
      refine wpA_value ext_grow ?_ (fun _ _ h => by cases h) rfl rfl ?_ ?_
      rotate_left 1
      · intro w' hw' C hC
        go_simp
        try go_bits
        exact hC
      simp only [putS, List.set_cons_succ, List.set_cons_zero]
      refine wpA_value ext_grow ?_ (fun _ _ h => by cases h) rfl rfl ?_ ?_
      rotate_left 1
      · intro w' hw' C hC
        go_simp
        try go_bits
        exact hC
      simp only [putS, List.set_cons_succ, List.set_cons_zero]
      refine wpA_value ext_grow ?_ (fun _ _ h => by cases h) rfl rfl ?_ ?_
      rotate_left 1
      · intro w' hw' C hC
        go_simp
        try go_bits
        exact hC
      simp only [putS, List.set_cons_succ, List.set_cons_zero]
      intro w8 hw8
      simp only [openS]
      intro u1 _ u2 _
      go_wp2_with fail
      go_ret
      exact ⟨rfl, hB5.trans (below_of_drew hw8 |>.mono hB5.size)⟩

set_option maxRecDepth 100000 in
theorem lifted (os : Os) (started : os.Started) (H : Type) (enc : TypeId × Value → H) :
    ReturnsInHanded {} Try.checked os 4 .any (Rows.schemaFitsSpec.pre6 enc Try.prog Try.f4 Rows.schemaFitsRow.domain false) (Rows.schemaFitsSpec.post enc Try.prog Try.f4 false true false false) := by
  refine returnsInHanded_of_change (C := Try.checked) own started (by kernel_rfl) Try.func4
    (ChangeSpec.witness6 (enc := enc) (C := Try.checked) false ⟨#[], #[.agg #[.int .u32 0, .slice none 0 0], .slice none 0 0, .int .u32 0], []⟩ 8 (by kernel_rfl) (by kernel_rfl) (by kernel_rfl) (by kernel_rfl)) ?_
  intro W base args ds gs before hval0 hW hcnd _
  have hval : ∀ (j : Nat) t v, Try.f4.params[j]? = some t → args[j]? = some v → Value.okWide Try.prog W .any base t v := hval0
  have hW' := hW
  obtain ⟨p, q, hA0, hV, rfl, hfz, hnd⟩ := hW
  have hA : DataW.TrodAll enc Try.prog W 0 (fun _ => true) true Try.f4.params.toList args.toList ds p := hA0
  rw [Try.params4] at hA hval
  obtain ⟨v0, vs0, d0, ds0, p0, q0, hargs, rfl, rfl, h0, r0⟩ := trodAll_cons hA
  obtain ⟨v1, vs1, d1, ds1, p1, q1, rfl, rfl, rfl, h1, r1⟩ := trodAll_cons r0
  obtain ⟨v2, vs2, d2, ds2, p2, q2, rfl, rfl, rfl, h2, r2⟩ := trodAll_cons r1
  obtain ⟨rfl, rfl, rfl⟩ := trodAll_nil r2
  obtain rfl : args = #[v0, v1, v2] := by cases args; simp_all
  obtain ⟨rfl, rfl⟩ := trodVars_none hV
  have k0 := h0
  have lt0 : ∀ x ∈ p0, x.block < W.heap.size := by obtain ⟨m, hm⟩ := k0; exact DataW.trod_lt m _ _ _ hm
  have k1 := h1
  have lt1 : ∀ x ∈ p1, x.block < W.heap.size := by obtain ⟨m, hm⟩ := k1; exact DataW.trod_lt m _ _ _ hm
  have k2 := h2
  have lt2 : ∀ x ∈ p2, x.block < W.heap.size := by obtain ⟨m, hm⟩ := k2; exact DataW.trod_lt m _ _ _ hm
  obtain ⟨id0, A0, n0, c0, l0, rfl, w0⟩ := frame_schema (hval 0 25 v0 rfl rfl) h0
  obtain ⟨A1, n1, c1, l1, rfl, w1⟩ := frame_cells (hval 1 38 v1 rfl rfl) h1
  obtain ⟨a2, rfl, hd2, hp2, w2⟩ := open_int Try.underlying22 (hval 2 22 v2 rfl rfl) h2
  clear hA0 hval0
  refine (walk W id0 A0 n0 c0 l0 w0 A1 n1 c1 l1 w1 a2 (bounds_u32 w2).1 (bounds_u32 w2).2).mono fun e W' ⟨he, bel⟩ => ?_
  subst he
  exact ⟨_, rfl, _, _, _, [], _, [], hW', trodAll_mk1 (shut_bool Try.underlying4 _), (trodAll_cons_mk (Below.trod laidOut (by kernel_rfl) (of_decide_eq_true (by kernel_rfl)) k0 bel lt0) (trodAll_cons_mk (Below.trod laidOut (by kernel_rfl) (of_decide_eq_true (by kernel_rfl)) k1 bel lt1) (trodAll_cons_mk (Below.trod laidOut (by kernel_rfl) (of_decide_eq_true (by kernel_rfl)) k2 bel lt2) trodAll_mk0))), rfl, bel.frame _, fun h => by cases h⟩

theorem over : Rows.schemaFitsRow.holds Try.pinned (OpenSpec.ofChange Rows.schemaFitsSpec) :=
  OpenClaim.holds_of_wide 4 Try.f4 rfl rfl rfl rfl rfl rfl rfl ⟨rfl, rfl, rfl, rfl, rfl⟩ rfl rfl rfl rfl rfl (by kernel_rfl) Try.func4 (by kernel_rfl)
    (of_decide_eq_true (by kernel_rfl)) (by unfold Func.isWrapper; first | (rw [if_pos (by decide +kernel)]; kernel_rfl) | (rw [if_neg (by decide +kernel)]; exact ⟨rfl, rfl⟩))
    (fun os started H enc _ => lifted os started H enc)

theorem proved : Rows.SchemaFitsSaid := over
#print axioms proved
end Go.Proofs.Ytlccpchlclpnaaa.schemaFits
