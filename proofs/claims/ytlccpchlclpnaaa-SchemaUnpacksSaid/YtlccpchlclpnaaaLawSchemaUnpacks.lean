/- SchemaUnpacks: for every input the law returns true, and what was there is as it was. No condition. -/
import Derived.Test.YtlccpchlclpnaaaRows
import Derived.Test.YtlccpchlclpnaaaFrame
import Derived.Test.YtlccpchlclpnaaaUnp
import Derived.Test.YtlccpchlclpnaaaRefSc
import Derived.Test.YtlccpchlclpnaaaGreat
import Derived.Test.YtlccpchlclpnaaaAlive
namespace Go.Proofs.Ytlccpchlclpnaaa.schemaUnpacks
open Go.Proofs.Ytlccpchlclpnaaa
open Go.ChangeShapes Go.WideShapes Go.ChangeAt Go.RowKit
open Go.ChangeMaps (open_string shut_string)

theorem own : ownKnob Try.prog.godebug = none := by kernel_rfl
theorem laidOut : laidOutB Try.prog = true := by kernel_rfl

theorem fdEq_refl (f : Fd) : fdEq f f = true := by simp [fdEq]
theorem sameSch_refl (i : UInt32) (l : List Fd) : sameSch i i l l = true := by
  unfold sameSch
  simp [fdEq_refl]
set_option maxRecDepth 100000 in
set_option maxHeartbeats 3000000 in
theorem walk (w : World) (A : Option Addr) (n c : Nat) (l : List UInt8) (hr : Rd w w.heap.size 1 A n c (bytesV l)) :
    Calls Try.prog 7 #[.slice A n c] w (RetVal w (.bool true)) := by
  obtain rfl : n = l.length := by have := hr.len; rw [bytesV_length] at this; omega
  go_enter Try.func7, Try.ntmps7
  go_wp2_with fail
  refine (alive08 w).mono ?_
  rintro e w2 ⟨rfl, hb2⟩
  have hr2 := (hr.below hb2).more hb2.size
  by_cases hn : 3000 < l.length
  · have t1 : decide ((3000 : Int) < (l.length : Int)) = true := decide_eq_true (by omega)
    clear hn
    go_wp2_with fail
    go_ret
    exact ⟨rfl, hb2⟩
  · have t1 : decide ((3000 : Int) < (l.length : Int)) = false := decide_eq_false (by omega)
    have hmax : Hid (l.length ≤ 3000) := hide (by omega)
    clear hn hr
    go_wp2_with fail
    refine (schUnpack w2 _ c A l hr2 (by have := hmax.out; omega)).mono ?_
    rintro e w3 ⟨F, fc, A3, c3, rfl, hrf, hrl, hb3⟩
    obtain ⟨R, hR⟩ : ∃ R, R = rdS l 0 := ⟨_, rfl⟩
    obtain ⟨id3, hid⟩ : ∃ i, i = uId l := ⟨_, rfl⟩
    obtain ⟨fs3, hfs⟩ : ∃ i, i = uFs l := ⟨_, rfl⟩
    obtain ⟨lf3, hlf⟩ : ∃ i, i = uLeft l := ⟨_, rfl⟩
    have HBAD : Hid (R.err ≠ 0 → id3 = 0 ∧ fs3 = [] ∧ lf3 = []) := hide (fun h => by rw [hid, hfs, hlf]; exact unp_bad (by rw [← hR]; exact h))
    have HOK : Hid (R.err = 0 → id3 = R.id ∧ fs3 = R.fs ∧ lf3 = R.left) := hide (fun h => by rw [hid, hfs, hlf]; exact unp_ok (by rw [← hR]; cases R; dsimp only at h; rw [h]))
    rw [← hR, ← hid, ← hfs, ← hlf]
    rw [← hfs] at hrf
    rw [← hlf] at hrl
    have HR := hide hR
    clear hid hfs hlf hR
    have hr3 := (hr2.below hb3).more hb3.size
    have hB3 : Below w.heap.size w w3 := below_call hb2 hb2.size hb3
    clear hr2 hb2 hb3 t1
    generalize hre : R.err = er at *
    go_wp2_with fail
    have x3 := boxN_new w3 #[.int .u32 (id3.toNat : Int), .slice F fs3.length fc] 25
    have hbA := (Below.refl w3.heap.size w3).alloc (Nat.le_refl _) (.cells #[.int .u32 (id3.toNat : Int), .slice F fs3.length fc] 25)
    have hz : (w3.alloc (.cells #[.int .u32 (id3.toNat : Int), .slice F fs3.length fc] 25)).heap.size = w3.heap.size + 1 := by simp
    have hrf4 := (hrf.below hbA).more hbA.size
    have hrl4 := (hrl.below hbA).more hbA.size
    have hr4 := (hr3.below hbA).more hbA.size
    have hB4 : Below w.heap.size w _ := below_call hB3 hB3.size hbA
    generalize w3.alloc (.cells #[.int .u32 (id3.toNat : Int), .slice F fs3.length fc] 25) = w4 at *
    rw [← hz]
    have rd5 := rdr_new w4 hr4 61
    have hbB := (Below.refl w4.heap.size w4).alloc (Nat.le_refl _) (.cells #[.slice A l.length c, .int .i64 0] 61)
    have x5 := x3.keep hbB x3.z
    have hrf5 := hrf4.below hbB
    have hrl5 := hrl4.below hbB
    have hB5 : Below w.heap.size w _ := below_call hB4 hB4.size hbB
    have hwb : w.heap.size ≤ w4.heap.size := hB4.size
    generalize w4.alloc (.cells #[.slice A l.length c, .int .i64 0] 61) = w5 at *
    obtain ⟨bs, hbs⟩ : ∃ bs, bs = w3.heap.size := ⟨_, rfl⟩
    rw [← hbs] at x5 hz ⊢
    obtain ⟨b, hb⟩ : ∃ b, b = w4.heap.size := ⟨_, rfl⟩
    rw [← hb] at rd5 hrf5 hrl5 hz hwb ⊢
    have hsb : bs < b := by omega
    clear hr4 hrf4 hrl4 hB4 hbB hz hbs hb x3 hrf hrl hr3 hB3 hbA
    refine (refSchema w5 b A c l 0 rd5).mono ?_
    rintro e w6 ⟨G, gc, rfl, hrg, ⟨A6, c6, rd6⟩, ho6⟩
    rw [← HR.out] at hrg rd6 ⊢
    rw [hre] at rd6
    have hzb : b ≤ w5.heap.size := Nat.le_of_lt rd5.z
    have hb6 : Below b w5 w6 := ho6.below hzb
    have x6 := x5.keep hb6 hsb
    have hrf6 := (hrf5.below hb6).more (Nat.le_of_lt rd6.z)
    have hrl6 := (hrl5.below hb6).more (Nat.le_of_lt rd6.z)
    have hB6 : Below w.heap.size w w6 := hB5.trans (hb6.mono hwb)
    clear rd5 ho6 hzb hb6 x5 hrf5 hrl5 hB5 hwb
    obtain ⟨idR, hidR⟩ : ∃ i, i = R.id := ⟨_, rfl⟩
    obtain ⟨fsR, hfsR⟩ : ∃ i, i = R.fs := ⟨_, rfl⟩
    obtain ⟨lfR, hlfR⟩ : ∃ i, i = R.left := ⟨_, rfl⟩
    rw [← hidR, ← hfsR]
    rw [← hfsR] at hrg
    rw [← hlfR] at rd6
    have HOK2 : Hid (er = 0 → id3 = idR ∧ fs3 = fsR ∧ lf3 = lfR) := hide (fun h => by rw [hidR, hfsR, hlfR]; exact HOK.out h)
    clear HOK hidR hfsR hlfR
    by_cases he : er = 0
    · obtain ⟨rfl, rfl, rfl⟩ := HOK2.out he
      subst he
      have c0 := rd6.c0
      have c1 : w6.cell? ⟨b, 1, none⟩ = some (.int .i64 0) := rd6.c1
      have s0 := x6.cell 0 _ rfl
      have s1 := x6.cell 1 _ rfl
      have x7 := boxN_new w6 #[.int .u32 (id3.toNat : Int), .slice G fs3.length gc] 25
      have hbA := (Below.refl w6.heap.size w6).alloc (Nat.le_refl _) (.cells #[.int .u32 (id3.toNat : Int), .slice G fs3.length gc] 25)
      have s0' := (x6.keep hbA x6.z).cell 0 _ rfl
      have s1' := (x6.keep hbA x6.z).cell 1 _ rfl
      have c0' := (rd6.keep hbA).c0
      have c1' : (w6.alloc (.cells #[.int .u32 (id3.toNat : Int), .slice G fs3.length gc] 25)).cell? ⟨b, 1, none⟩ = some (.int .i64 0) := (rd6.keep hbA).c1
      have u0 := x7.cell 0 _ rfl
      have u1 := x7.cell 1 _ rfl
      have hrf7 := (hrf6.below hbA).more hbA.size
      have hrg7 := (hrg.below hbA).more hbA.size
      have hrl7 := (hrl6.below hbA).more hbA.size
      have rd7 := rd6.keep hbA
      have hB7 : Below w.heap.size w _ := below_call hB6 hB6.size hbA
      have XS := hide (And.intro (x6.keep hbA x6.z) x7)
      clear hrf6 hrg hrl6 hB6 hbA
      go_wp2_with fail
      clear c0 c1 s0 s1 x6 rd6 x7
      generalize w6.alloc (.cells #[.int .u32 (id3.toNat : Int), .slice G fs3.length gc] 25) = w7 at *
      generalize w6.heap.size = bu at *
      have hcv3 := run_str (P := Try.prog) w7.drew Try.underlying54 Try.underlying5 Try.underlying9 hrl7.drew
      have hcv4 := run_str (P := Try.prog) w7.drew Try.underlying54 Try.underlying5 Try.underlying9 rd7.rd.drew
      go_region_held3 (fun w' => w'.cell? ⟨bs, 0, none⟩ = some (.int .u32 (id3.toNat : Int)) ∧ w'.cell? ⟨bs, 1, none⟩ = some (.slice F fs3.length fc) ∧ w'.cell? ⟨bu, 0, none⟩ = some (.int .u32 (id3.toNat : Int)) ∧ w'.cell? ⟨bu, 1, none⟩ = some (.slice G fs3.length gc) ∧ w'.cell? ⟨b, 0, none⟩ = some (.slice A6 lf3.length c6) ∧ (convert 54 9 (.slice A3 lf3.length c3)).run Try.prog w' = .ok (.string ⟨lf3.toArray⟩) w' ∧ (convert 54 9 (.slice A6 lf3.length c6)).run Try.prog w' = .ok (.string ⟨lf3.toArray⟩) w') (first | exact ⟨d0, d1, d2, d3, d4, hcv1, hcv2⟩ | exact ⟨s0', s1', u0, u1, c0', hcv3, hcv4⟩ | go_keep)
        (first | (go_at_call 17; refine (refSame w7.drew id3 id3 _ fc _ gc F G fs3 fs3 hrf7.drew hrg7.drew).mono ?_; rintro e w8 ⟨rfl, hb8⟩; simp only [sameSch_refl]; have hb8' := below_of_drew hb8; have rd8 := rd7.keep hb8'; have d0 := (XS.out.1.keep hb8' XS.out.1.z).cell 0 _ rfl; have d1 := (XS.out.1.keep hb8' XS.out.1.z).cell 1 _ rfl; have d2 := (XS.out.2.keep hb8' XS.out.2.z).cell 0 _ rfl; have d3 := (XS.out.2.keep hb8' XS.out.2.z).cell 1 _ rfl; have d4 := rd8.c0; have hcv1 := run_str (P := Try.prog) w8 Try.underlying54 Try.underlying5 Try.underlying9 (hrl7.below hb8'); have hcv2 := run_str (P := Try.prog) w8 Try.underlying54 Try.underlying5 Try.underlying9 rd8.rd))
      all_goals (try go_wp2_with fail)
      all_goals go_ret
      all_goals exact ⟨rfl, below_call hB7 hB7.size (below_of_drew hb8)⟩
    · obtain ⟨rfl, rfl, rfl⟩ := HBAD.out he
      have c1 := rd6.c1
      have s0 := x6.cell 0 _ rfl
      have s1 := x6.cell 1 _ rfl
      have x7 := boxN_new w6 #[.int .u32 (idR.toNat : Int), .slice G fsR.length gc] 25
      have hbA := (Below.refl w6.heap.size w6).alloc (Nat.le_refl _) (.cells #[.int .u32 (idR.toNat : Int), .slice G fsR.length gc] 25)
      have s0' := (x6.keep hbA x6.z).cell 0 _ rfl
      have s1' := (x6.keep hbA x6.z).cell 1 _ rfl
      have c1' := (rd6.keep hbA).c1
      have hrf7 := (hrf6.below hbA).more hbA.size
      have hB7 : Below w.heap.size w _ := below_call hB6 hB6.size hbA
      have t2 : ((er : Int) != 0) = true := by rw [bne_iff_ne]; omega
      clear hrf6 hrg hrl6 hB6 hbA he HBAD HOK2
      go_wp2_with fail
      generalize w6.alloc (.cells #[.int .u32 (idR.toNat : Int), .slice G fsR.length gc] 25) = w7 at *
      refine (refSame w7 0 0 _ fc 0 0 F none [] [] hrf7 (Rd.nil _ _ _)).mono ?_
      rintro e w8 ⟨rfl, hb8⟩
      simp only [sameSch_refl]
      go_wp2_with fail
      go_ret
      exact ⟨rfl, below_call hB7 hB7.size hb8⟩

set_option maxRecDepth 100000 in
theorem lifted (os : Os) (started : os.Started) (H : Type) (enc : TypeId × Value → H) :
    ReturnsInHanded {} Try.checked os 7 .any (Rows.schemaUnpacksSpec.pre6 enc Try.prog Try.f7 Rows.schemaUnpacksRow.domain false) (Rows.schemaUnpacksSpec.post enc Try.prog Try.f7 false true false false) := by
  refine returnsInHanded_of_change (C := Try.checked) own started (by kernel_rfl) Try.func7
    (ChangeSpec.witness6 (enc := enc) (C := Try.checked) false ⟨#[], #[.slice none 0 0], []⟩ 8 (by kernel_rfl) (by kernel_rfl) (by kernel_rfl) (by kernel_rfl)) ?_
  intro W base args ds gs before hval0 hW hcnd _
  have hval : ∀ (j : Nat) t v, Try.f7.params[j]? = some t → args[j]? = some v → Value.okWide Try.prog W .any base t v := hval0
  have hW' := hW
  obtain ⟨p, q, hA0, hV, rfl, hfz, hnd⟩ := hW
  have hA : DataW.TrodAll enc Try.prog W 0 (fun _ => true) true Try.f7.params.toList args.toList ds p := hA0
  rw [Try.params7] at hA hval
  obtain ⟨v0, vs0, d0, ds0, p0, q0, hargs, rfl, rfl, h0, r0⟩ := trodAll_cons hA
  obtain ⟨rfl, rfl, rfl⟩ := trodAll_nil r0
  obtain rfl : args = #[v0] := by cases args; simp_all
  obtain ⟨rfl, rfl⟩ := trodVars_none hV
  have k0 := h0
  have lt0 : ∀ x ∈ p0, x.block < W.heap.size := by obtain ⟨m, hm⟩ := k0; exact DataW.trod_lt m _ _ _ hm
  obtain ⟨A0, n0, c0, l0, rfl, w0, hr0⟩ := frame_bytes Try.underlying54 Try.underlying5 (by kernel_rfl) (hval 0 54 v0 rfl rfl) h0
  clear hA0 hval0
  refine (walk W A0 n0 c0 l0 w0).mono fun e W' ⟨he, bel⟩ => ?_
  subst he
  exact ⟨_, rfl, _, _, _, [], _, [], hW', trodAll_mk1 (shut_bool Try.underlying4 _), (trodAll_cons_mk (Below.trod laidOut (by kernel_rfl) (of_decide_eq_true (by kernel_rfl)) k0 bel lt0) trodAll_mk0), rfl, bel.frame _, fun h => by cases h⟩

theorem over : Rows.schemaUnpacksRow.holds Try.pinned (OpenSpec.ofChange Rows.schemaUnpacksSpec) :=
  OpenClaim.holds_of_wide 7 Try.f7 rfl rfl rfl rfl rfl rfl rfl ⟨rfl, rfl, rfl, rfl, rfl⟩ rfl rfl rfl rfl rfl (by kernel_rfl) Try.func7 (by kernel_rfl)
    (of_decide_eq_true (by kernel_rfl)) (by unfold Func.isWrapper; first | (rw [if_pos (by decide +kernel)]; kernel_rfl) | (rw [if_neg (by decide +kernel)]; exact ⟨rfl, rfl⟩))
    (fun os started H enc _ => lifted os started H enc)

theorem proved : Rows.SchemaUnpacksSaid := over
#print axioms proved
end Go.Proofs.Ytlccpchlclpnaaa.schemaUnpacks
