/- SchemaChecks: for every input the law returns true, and what was there is as it was. No condition. -/
import Derived.Test.YtlccpchlclpnaaaRows
import Derived.Test.YtlccpchlclpnaaaFrame
import Derived.Test.YtlccpchlclpnaaaFrameS
import Derived.Test.YtlccpchlclpnaaaAlive
import Derived.Test.YtlccpchlclpnaaaRefAdd
namespace Go.Proofs.Ytlccpchlclpnaaa.schemaChecks
open Go.Proofs.Ytlccpchlclpnaaa
open Go.ChangeShapes Go.WideShapes Go.ChangeAt Go.RowKit
open Go.ChangeMaps (open_string shut_string)

theorem own : ownKnob Try.prog.godebug = none := by kernel_rfl
theorem laidOut : laidOutB Try.prog = true := by kernel_rfl

theorem fdEq_refl (f : Fd) : fdEq f f = true := by simp [fdEq]
theorem sameSch_refl (i : UInt32) (l : List Fd) : sameSch i i l l = true := by
  unfold sameSch
  simp [fdEq_refl]
set_option maxRecDepth 100000 in
set_option maxHeartbeats 2000000 in
theorem walk (w : World) (id : UInt32) (A : Option Addr) (n c : Nat) (l : List Fd) (hr : Rd w w.heap.size 4 A n c (fdsV l)) (name : ByteArray) (_hname : name.size ≤ maxLen) (k : Int) (k0 : 0 ≤ k) (k1 : k ≤ 255) :
    Calls Try.prog 3 #[.agg #[.int .u32 (id.toNat : Int), .slice A n c], .string name, .int .u8 k] w (RetVal w (.bool true)) := by
  obtain rfl := hr.lenF
  obtain ⟨kn, rfl⟩ := Int.eq_ofNat_of_zero_le k0
  have hk : kn < 256 := by omega
  clear k0 k1
  go_enter Try.func3, Try.ntmps3
  go_wp2_with fail
  have x1 := box_new w #[.int .u32 (id.toNat : Int), .slice A l.length c] 25
  generalize hwa : w.alloc (.cells #[.int .u32 (id.toNat : Int), .slice A l.length c] 25) = wa at *
  obtain ⟨cs, _, zs, hb1⟩ := x1.lift (Below.refl _ _)
  have s0 : wa.cell? ⟨w.heap.size, 0, none⟩ = some (.int .u32 (id.toNat : Int)) := cs 0 _ rfl
  have s1 : wa.cell? ⟨w.heap.size, 1, none⟩ = some (.slice A l.length c) := cs 1 _ rfl
  have hr1 := (hr.below hb1).more hb1.size
  obtain ⟨bs, hbs⟩ : ∃ bs, bs = w.heap.size := ⟨_, rfl⟩
  rw [← hbs] at s0 s1 zs ⊢
  have HBS := hide hbs
  clear hwa cs x1 hbs hr
  refine (alive08 wa).mono ?_
  rintro e w2 ⟨rfl, hb2⟩
  have sa := (hb2.cell (p := ⟨bs, 0, none⟩) zs).trans s0
  have sb := (hb2.cell (p := ⟨bs, 1, none⟩) zs).trans s1
  have z2 : bs < w2.heap.size := Nat.lt_of_lt_of_le zs hb2.size
  have hr2 := (hr1.below hb2).more hb2.size
  have hB2 : Below w.heap.size w w2 := below_call hb1 hb1.size hb2
  clear s0 s1 zs hr1 hb1 hb2
  go_wp2_with fail
  refine (refGreat w2 id _ c A l hr2).mono ?_
  rintro e w3 ⟨g, rfl, hsm, hb3⟩
  have sa3 := (hb3.cell (p := ⟨bs, 0, none⟩) z2).trans sa
  have sb3 := (hb3.cell (p := ⟨bs, 1, none⟩) z2).trans sb
  have z3 : bs < w3.heap.size := Nat.lt_of_lt_of_le z2 hb3.size
  have hr3 := (hr2.below hb3).more hb3.size
  have hB3 : Below w.heap.size w w3 := below_call hB2 hB2.size hb3
  clear sa sb z2 hr2 hB2 hb3
  cases g with
  | true =>
    go_wp2_with fail
    go_ret
    exact ⟨rfl, hB3⟩
  | false =>
    by_cases hn : 1000 < name.size
    · have t1 : decide ((1000 : Int) < (name.size : Int)) = true := decide_eq_true (by omega)
      clear hn
      go_wp2_with fail
      go_ret
      exact ⟨rfl, hB3⟩
    · have t1 : decide ((1000 : Int) < (name.size : Int)) = false := decide_eq_false (by omega)
      clear hn hsm
      go_wp2_with fail
      refine (schAdd w3 id _ c A l hr3 name kn hk).mono ?_
      rintro e w4 ⟨v4, rfl, ⟨tA, tc, rfl, hrt⟩, hb4⟩
      have sa4 := (hb4.cell (p := ⟨bs, 0, none⟩) z3).trans sa3
      have sb4 := (hb4.cell (p := ⟨bs, 1, none⟩) z3).trans sb3
      have z4 : bs < w4.heap.size := Nat.lt_of_lt_of_le z3 hb4.size
      have hr4 := (hr3.below hb4).more hb4.size
      have hB4 : Below w.heap.size w w4 := below_call hB3 hB3.size hb4
      clear sa3 sb3 z3 hr3 hB3 hb4
      obtain ⟨ae, hae⟩ : ∃ ae, ae = addErr id l name kn := ⟨_, rfl⟩
      obtain ⟨ai, hai⟩ : ∃ ai, ai = addId id l name kn := ⟨_, rfl⟩
      obtain ⟨af, haf⟩ : ∃ af, af = addFds id l name kn := ⟨_, rfl⟩
      rw [← hae, ← hai, ← haf]
      rw [← haf] at hrt
      have HA := hide (And.intro hae (And.intro hai haf))
      clear hae hai haf
      have zne4 : bs ≠ w4.heap.size := Nat.ne_of_lt z4
      have xt := box_new w4 #[.int .u32 (ai.toNat : Int), .slice tA af.length tc] 25
      go_wp2_with fail
      generalize hwt : w4.alloc (.cells #[.int .u32 (ai.toNat : Int), .slice tA af.length tc] 25) = w5 at *
      obtain ⟨ct, _, zt, hb5⟩ := xt.lift (Below.refl _ _)
      have ct0 : w5.cell? ⟨w4.heap.size, 0, none⟩ = some (.int .u32 (ai.toNat : Int)) := ct 0 _ rfl
      have ct1 : w5.cell? ⟨w4.heap.size, 1, none⟩ = some (.slice tA af.length tc) := ct 1 _ rfl
      have sa5 := (hb5.cell (p := ⟨bs, 0, none⟩) z4).trans sa4
      have sb5 := (hb5.cell (p := ⟨bs, 1, none⟩) z4).trans sb4
      have z5 : bs < w5.heap.size := Nat.lt_of_lt_of_le z4 hb5.size
      have hr5 := (hr4.below hb5).more hb5.size
      have hrt5 := (hrt.below hb5).more hb5.size
      have hB5 : Below w.heap.size w w5 := below_call hB4 hB4.size hb5
      generalize w4.heap.size = bt at *
      clear hwt ct xt sa4 sb4 z4 zne4 hr4 hrt hB4 hb5
      refine (refAdd w5 id _ c A l hr5 name kn hk).mono ?_
      rintro e w6 ⟨v6, rfl, ⟨uA, uc, rfl, hru⟩, hb6⟩
      rw [← HA.out.1, ← HA.out.2.1, ← HA.out.2.2]
      rw [← HA.out.2.2] at hru
      have sa6 := (hb6.cell (p := ⟨bs, 0, none⟩) z5).trans sa5
      have sb6 := (hb6.cell (p := ⟨bs, 1, none⟩) z5).trans sb5
      have ct60 := (hb6.cell (p := ⟨bt, 0, none⟩) zt).trans ct0
      have ct61 := (hb6.cell (p := ⟨bt, 1, none⟩) zt).trans ct1
      have z6 : bs < w6.heap.size := Nat.lt_of_lt_of_le z5 hb6.size
      have zt6 : bt < w6.heap.size := Nat.lt_of_lt_of_le zt hb6.size
      have hr6 := (hr5.below hb6).more hb6.size
      have hrt6 := (hrt5.below hb6).more hb6.size
      have hB6 : Below w.heap.size w w6 := below_call hB5 hB5.size hb6
      clear sa5 sb5 z5 zt ct0 ct1 hr5 hrt5 hB5 hb6
      have xu := box_new w6 #[.int .u32 (ai.toNat : Int), .slice uA af.length uc] 25
      go_wp2_with fail
      generalize hwu : w6.alloc (.cells #[.int .u32 (ai.toNat : Int), .slice uA af.length uc] 25) = w7 at *
      obtain ⟨cu, _, zu, hb7⟩ := xu.lift (Below.refl _ _)
      have cbu0 : w7.cell? ⟨w6.heap.size, 0, none⟩ = some (.int .u32 (ai.toNat : Int)) := cu 0 _ rfl
      have cbu1 : w7.cell? ⟨w6.heap.size, 1, none⟩ = some (.slice uA af.length uc) := cu 1 _ rfl
      have cbs0 := (hb7.cell (p := ⟨bs, 0, none⟩) z6).trans sa6
      have cbs1 := (hb7.cell (p := ⟨bs, 1, none⟩) z6).trans sb6
      have cbt0 := (hb7.cell (p := ⟨bt, 0, none⟩) zt6).trans ct60
      have cbt1 := (hb7.cell (p := ⟨bt, 1, none⟩) zt6).trans ct61
      have zbs : bs < w7.drew.heap.size := Nat.lt_of_lt_of_le z6 hb7.size
      have zbt : bt < w7.drew.heap.size := Nat.lt_of_lt_of_le zt6 hb7.size
      have hrS := (hr6.below hb7).more hb7.size
      have hrT := (hrt6.below hb7).more hb7.size
      have hrU := (hru.below hb7).more hb7.size
      have hB7 : Below w.heap.size w w7 := below_call hB6 hB6.size hb7
      obtain ⟨bu, hbu⟩ : ∃ bu, bu = w6.heap.size := ⟨_, rfl⟩
      rw [← hbu] at cbu0 cbu1 zu ⊢
      have zbu : bu < w7.drew.heap.size := zu
      obtain ⟨ck, hck⟩ : ∃ ck, ck = check id l := ⟨_, rfl⟩
      have HCK := hide hck.symm
      clear hck hwu cu xu sa6 sb6 ct60 ct61 z6 zt6 hr6 hrt6 hru hB6 hb7 hbu
      refine wp_region_abs ext_grow (by kernel_rfl) (by kernel_rfl) ?_
      simp only [List.map_cons, List.map_nil]
      refine wpA_value ext_grow ?_ (fun _ _ h => by cases h) rfl rfl ?_ ?_
      rotate_left 1
      · intro w' hw' C hC
        have q1 := (hw'.cell (p := ⟨bs, 0, none⟩) zbs).trans cbs0
        have q2 := (hw'.cell (p := ⟨bs, 1, none⟩) zbs).trans cbs1
        go_simp
        try go_bits
        exact hC
      simp only [putS, List.set_cons_succ, List.set_cons_zero]
      refine wpA_known (.is (.int .i64 (ck : Int))) (fun _ _ h => by cases h) rfl rfl (mono_is _) (fun w' hw' => ?_) ?_
      · go_simp
        exact ⟨Below.refl _ _, (schCheck w' id _ c A l ((hrS.keep fun p hp => hw'.cell hp).more hw'.size)).mono fun e w'' h => is_ret (by rw [h.1, HCK.out]) h.2⟩
      simp only [putS, List.set_cons_succ, List.set_cons_zero]
      refine wpA_value ext_grow ?_ (fun _ _ h => by cases h) rfl rfl ?_ ?_
      rotate_left 1
      · intro w' hw' C hC
        have q1 := (hw'.cell (p := ⟨bs, 0, none⟩) zbs).trans cbs0
        have q2 := (hw'.cell (p := ⟨bs, 1, none⟩) zbs).trans cbs1
        go_simp
        try go_bits
        exact hC
      simp only [putS, List.set_cons_succ, List.set_cons_zero]
      refine wpA_known (.is (.int .i64 (ck : Int))) (fun _ _ h => by cases h) rfl rfl (mono_is _) (fun w' hw' => ?_) ?_
      · go_simp
        exact ⟨Below.refl _ _, (refCheck w' id _ c A l ((hrS.keep fun p hp => hw'.cell hp).more hw'.size)).mono fun e w'' h => is_ret (by rw [h.1, HCK.out]) h.2⟩
      simp only [putS, List.set_cons_succ, List.set_cons_zero]
      refine wpA_value ext_grow ?_ (fun _ _ h => by cases h) rfl rfl ?_ ?_
      rotate_left 1
      · intro w' hw' C hC
        go_simp
        try go_bits
        exact hC
      simp only [putS, List.set_cons_succ, List.set_cons_zero]
      refine wpA_value ext_grow ?_ (fun _ _ h => by cases h) rfl rfl ?_ ?_
      rotate_left 1
      · intro w' hw' C hC
        go_simp
        try go_bits
        exact hC
      simp only [putS, List.set_cons_succ, List.set_cons_zero]
      refine wpA_value ext_grow ?_ (fun _ _ h => by cases h) rfl rfl ?_ ?_
      rotate_left 1
      · intro w' hw' C hC
        go_simp
        try go_bits
        exact hC
      simp only [putS, List.set_cons_succ, List.set_cons_zero]
      refine wpA_value ext_grow ?_ (fun _ _ h => by cases h) rfl rfl ?_ ?_
      rotate_left 1
      · intro w' hw' C hC
        go_simp
        try go_bits
        exact hC
      simp only [putS, List.set_cons_succ, List.set_cons_zero]
      refine wpA_value ext_grow ?_ (fun _ _ h => by cases h) rfl rfl ?_ ?_
      rotate_left 1
      · intro w' hw' C hC
        go_simp
        try go_bits
        exact hC
      simp only [putS, List.set_cons_succ, List.set_cons_zero]
      refine wpA_value ext_grow ?_ (fun _ _ h => by cases h) rfl rfl ?_ ?_
      rotate_left 1
      · intro w' hw' C hC
        go_simp
        try go_bits
        exact hC
      simp only [putS, List.set_cons_succ, List.set_cons_zero]
      refine wpA_value ext_grow ?_ (fun _ _ h => by cases h) rfl rfl ?_ ?_
      rotate_left 1
      · intro w' hw' C hC
        go_simp
        try go_bits
        exact hC
      simp only [putS, List.set_cons_succ, List.set_cons_zero]
      refine wpA_value ext_grow ?_ (fun _ _ h => by cases h) rfl rfl ?_ ?_
      rotate_left 1
      · intro w' hw' C hC
        have q1 := (hw'.cell (p := ⟨bt, 0, none⟩) zbt).trans cbt0
        have q2 := (hw'.cell (p := ⟨bt, 1, none⟩) zbt).trans cbt1
        go_simp
        try go_bits
        exact hC
      simp only [putS, List.set_cons_succ, List.set_cons_zero]
      refine wpA_value ext_grow ?_ (fun _ _ h => by cases h) rfl rfl ?_ ?_
      rotate_left 1
      · intro w' hw' C hC
        have q1 := (hw'.cell (p := ⟨bu, 0, none⟩) zbu).trans cbu0
        have q2 := (hw'.cell (p := ⟨bu, 1, none⟩) zbu).trans cbu1
        go_simp
        try go_bits
        exact hC
      simp only [putS, List.set_cons_succ, List.set_cons_zero]
      refine wpA_known (.is (.bool true)) (fun _ _ h => by cases h) rfl rfl (mono_is _) (fun w' hw' => ?_) ?_
      · go_simp
        exact ⟨Below.refl _ _, (refSame w' ai ai _ tc _ uc tA uA af af ((hrT.keep fun p hp => hw'.cell hp).more hw'.size) ((hrU.keep fun p hp => hw'.cell hp).more hw'.size)).mono fun e w'' h => is_ret (by rw [h.1, sameSch_refl]) h.2⟩
      simp only [putS, List.set_cons_succ, List.set_cons_zero]
      refine wpA_value ext_grow ?_ (fun _ _ h => by cases h) rfl rfl ?_ ?_
      rotate_left 1
      · intro w' hw' C hC
        go_simp
        try go_bits
        exact hC
      simp only [putS, List.set_cons_succ, List.set_cons_zero]
      refine wpA_value ext_grow ?_ (fun _ _ h => by cases h) rfl rfl ?_ ?_
      rotate_left 1
      · intro w' hw' C hC
        go_simp
        try go_bits
        exact hC
      simp only [putS, List.set_cons_succ, List.set_cons_zero]
      intro w8 hw8
      simp only [openS]
      go_wp2_with fail
      go_ret
      exact ⟨rfl, hB7.trans (below_of_drew hw8 |>.mono hB7.size)⟩

set_option maxRecDepth 100000 in
theorem lifted (os : Os) (started : os.Started) (H : Type) (enc : TypeId × Value → H) :
    ReturnsInHanded {} Try.checked os 3 .any (Rows.schemaChecksSpec.pre6 enc Try.prog Try.f3 Rows.schemaChecksRow.domain false) (Rows.schemaChecksSpec.post enc Try.prog Try.f3 false true false false) := by
  refine returnsInHanded_of_change (C := Try.checked) own started (by kernel_rfl) Try.func3
    (ChangeSpec.witness6 (enc := enc) (C := Try.checked) false ⟨#[], #[.agg #[.int .u32 0, .slice none 0 0], .string ByteArray.empty, .int .u8 0], []⟩ 8 (by kernel_rfl) (by kernel_rfl) (by kernel_rfl) (by kernel_rfl)) ?_
  intro W base args ds gs before hval0 hW hcnd _
  have hval : ∀ (j : Nat) t v, Try.f3.params[j]? = some t → args[j]? = some v → Value.okWide Try.prog W .any base t v := hval0
  have hW' := hW
  obtain ⟨p, q, hA0, hV, rfl, hfz, hnd⟩ := hW
  have hA : DataW.TrodAll enc Try.prog W 0 (fun _ => true) true Try.f3.params.toList args.toList ds p := hA0
  rw [Try.params3] at hA hval
  obtain ⟨v0, vs0, d0, ds0, p0, q0, hargs, rfl, rfl, h0, r0⟩ := trodAll_cons hA
  obtain ⟨v1, vs1, d1, ds1, p1, q1, rfl, rfl, rfl, h1, r1⟩ := trodAll_cons r0
  obtain ⟨v2, vs2, d2, ds2, p2, q2, rfl, rfl, rfl, h2, r2⟩ := trodAll_cons r1
  obtain ⟨rfl, rfl, rfl⟩ := trodAll_nil r2
  obtain rfl : args = #[v0, v1, v2] := by cases args; simp_all
  obtain ⟨rfl, rfl⟩ := trodVars_none hV
  have k0 := h0
  have lt0 : ∀ x ∈ p0, x.block < W.heap.size := by obtain ⟨m, hm⟩ := k0; exact DataW.trod_lt m _ _ _ hm
  have k1 := h1
  have lt1 : ∀ x ∈ p1, x.block < W.heap.size := by obtain ⟨m, hm⟩ := k1; exact DataW.trod_lt m _ _ _ hm
  have k2 := h2
  have lt2 : ∀ x ∈ p2, x.block < W.heap.size := by obtain ⟨m, hm⟩ := k2; exact DataW.trod_lt m _ _ _ hm
  obtain ⟨id0, A0, n0, c0, l0, rfl, w0⟩ := frame_schema (hval 0 25 v0 rfl rfl) h0
  obtain ⟨a1, rfl, hd1, hp1, w1⟩ := open_string Try.underlying9 (hval 1 9 v1 rfl rfl) h1
  obtain ⟨a2, rfl, hd2, hp2, w2⟩ := open_int Try.underlying5 (hval 2 5 v2 rfl rfl) h2
  clear hA0 hval0
  refine (walk W id0 A0 n0 c0 l0 w0 a1 w1 a2 (bounds_u8 w2).1 (bounds_u8 w2).2).mono fun e W' ⟨he, bel⟩ => ?_
  subst he
  exact ⟨_, rfl, _, _, _, [], _, [], hW', trodAll_mk1 (shut_bool Try.underlying4 _), (trodAll_cons_mk (Below.trod laidOut (by kernel_rfl) (of_decide_eq_true (by kernel_rfl)) k0 bel lt0) (trodAll_cons_mk (Below.trod laidOut (by kernel_rfl) (of_decide_eq_true (by kernel_rfl)) k1 bel lt1) (trodAll_cons_mk (Below.trod laidOut (by kernel_rfl) (of_decide_eq_true (by kernel_rfl)) k2 bel lt2) trodAll_mk0))), rfl, bel.frame _, fun h => by cases h⟩

theorem over : Rows.schemaChecksRow.holds Try.pinned (OpenSpec.ofChange Rows.schemaChecksSpec) :=
  OpenClaim.holds_of_wide 3 Try.f3 rfl rfl rfl rfl rfl rfl rfl ⟨rfl, rfl, rfl, rfl, rfl⟩ rfl rfl rfl rfl rfl (by kernel_rfl) Try.func3 (by kernel_rfl)
    (of_decide_eq_true (by kernel_rfl)) (by unfold Func.isWrapper; first | (rw [if_pos (by decide +kernel)]; kernel_rfl) | (rw [if_neg (by decide +kernel)]; exact ⟨rfl, rfl⟩))
    (fun os started H enc _ => lifted os started H enc)

theorem proved : Rows.SchemaChecksSaid := over
#print axioms proved
end Go.Proofs.Ytlccpchlclpnaaa.schemaChecks
