/- SchemaPacks: for every input the law returns true, and what was there is as it was. No condition. -/
import Derived.Test.YtlccpchlclpnaaaRows
import Derived.Test.YtlccpchlclpnaaaFrame
import Derived.Test.YtlccpchlclpnaaaUnp
import Derived.Test.YtlccpchlclpnaaaPack
import Derived.Test.YtlccpchlclpnaaaGreat
import Derived.Test.YtlccpchlclpnaaaAlive
import Derived.Test.YtlccpchlclpnaaaFrameS
namespace Go.Proofs.Ytlccpchlclpnaaa.schemaPacks
open Go.Proofs.Ytlccpchlclpnaaa
open Go.ChangeShapes Go.WideShapes Go.ChangeAt Go.RowKit
open Go.ChangeMaps (open_string shut_string)

theorem own : ownKnob Try.prog.godebug = none := by kernel_rfl
theorem laidOut : laidOutB Try.prog = true := by kernel_rfl

theorem fdEq_refl (f : Fd) : fdEq f f = true := by simp [fdEq]
theorem sameSch_refl (i : UInt32) (l : List Fd) : sameSch i i l l = true := by
  unfold sameSch
  simp [fdEq_refl]
theorem sized_small {l : List Fd} (h : Small l) : Sized l := ⟨by have := h.1; omega, fun j hj => by have := h.2 j hj; omega⟩
theorem packF_le {f : Fd} (h : f.name.size ≤ 5000) : (packF f).length ≤ 5031 := by
  have h1 := f.id.toNat_lt
  have h2 := f.kind.toNat_lt
  have q1 := Var.put_le10 (n := f.id.toNat) (by omega)
  have q2 := Var.put_le10 (n := f.name.size) (by omega)
  have q3 := Var.put_le10 (n := f.kind.toNat) (by omega)
  have q4 : f.name.data.toList.length = f.name.size := by simp
  unfold packF
  simp only [List.length_append, List.length_cons, List.length_nil, q4]
  omega
theorem packFs_le : ∀ (l : List Fd), (∀ f ∈ l, f.name.size ≤ 5000) → (packFs l).length ≤ l.length * 5031
  | [], _ => by simp [packFs]
  | f :: l, h => by
    have h1 := packF_le (h f (by simp))
    have h2 := packFs_le l fun g hg => h g (by simp [hg])
    rw [packFs_cons, List.length_append, List.length_cons]
    omega
theorem small_mem {l : List Fd} (h : Small l) : ∀ f ∈ l, f.name.size ≤ 5000 := fun f hf => by
  obtain ⟨k, hk, rfl⟩ := List.getElem_of_mem hf
  have := h.2 k hk
  simp [List.getD, hk] at this
  omega
theorem pack_le {id : UInt32} {l : List Fd} (h : Small l) : (pack id l).length ≤ 600000 := by
  have h1 := id.toNat_lt
  have h2 := h.1
  have q1 := Var.put_le10 (n := id.toNat) (by omega)
  have q2 := Var.put_le10 (n := l.length) (by omega)
  have q3 := packFs_le l (small_mem h)
  unfold pack
  simp only [List.length_append]
  omega
set_option maxRecDepth 100000 in
set_option maxHeartbeats 3000000 in
theorem walk (w : World) (id : UInt32) (A : Option Addr) (n c : Nat) (l : List Fd) (hr : Rd w w.heap.size 4 A n c (fdsV l)) (Bh : Option Addr) (bn bc : Nat) (bh : List UInt8) (hrb : Rd w w.heap.size 1 Bh bn bc (bytesV bh)) :
    Calls Try.prog 8 #[.agg #[.int .u32 (id.toNat : Int), .slice A n c], .slice Bh bn bc] w (RetVal w (.bool true)) := by
  obtain rfl := hr.lenF
  obtain rfl : bn = bh.length := by have := hrb.len; rw [bytesV_length] at this; omega
  go_enter Try.func8, Try.ntmps8
  go_wp2_with fail
  have x1 := boxN_new w #[.int .u32 (id.toNat : Int), .slice A l.length c] 25
  have hb1 := (Below.refl w.heap.size w).alloc (Nat.le_refl _) (.cells #[.int .u32 (id.toNat : Int), .slice A l.length c] 25)
  have hr1 := (hr.below hb1).more hb1.size
  have hrb1 := (hrb.below hb1).more hb1.size
  generalize w.alloc (.cells #[.int .u32 (id.toNat : Int), .slice A l.length c] 25) = w1 at *
  obtain ⟨bs, hbs⟩ : ∃ bs, bs = w.heap.size := ⟨_, rfl⟩
  rw [← hbs] at x1 ⊢
  have hB1 : Below w.heap.size w w1 := hb1
  clear hb1 hr hrb hbs
  refine (alive08 w1).mono ?_
  rintro e w2 ⟨rfl, hb2⟩
  have x2 := x1.keep hb2 x1.z
  have hr2 := (hr1.below hb2).more hb2.size
  have hrb2 := (hrb1.below hb2).more hb2.size
  have hB2 : Below w.heap.size w w2 := below_call hB1 hB1.size hb2
  clear x1 hr1 hrb1 hB1 hb2
  have s0 := x2.cell 0 _ rfl
  have s1 := x2.cell 1 _ rfl
  go_wp2_with fail
  refine (refGreat w2 id _ c A l hr2).mono ?_
  rintro e w3 ⟨g, rfl, hsm, hb3⟩
  have x3 := x2.keep hb3 x2.z
  have hr3 := (hr2.below hb3).more hb3.size
  have hrb3 := (hrb2.below hb3).more hb3.size
  have hB3 : Below w.heap.size w w3 := below_call hB2 hB2.size hb3
  clear x2 hr2 hrb2 hB2 hb3 s0 s1
  have s0 := x3.cell 0 _ rfl
  have s1 := x3.cell 1 _ rfl
  cases g with
  | true =>
    go_wp2_with fail
    go_ret
    exact ⟨rfl, hB3⟩
  | false =>
    have HSM := hide (hsm rfl)
    clear hsm
    by_cases hn : 1000 < bh.length
    · have t1 : decide ((1000 : Int) < (bh.length : Int)) = true := decide_eq_true (by omega)
      clear hn
      go_wp2_with fail
      go_ret
      exact ⟨rfl, hB3⟩
    have t1 : decide ((1000 : Int) < (bh.length : Int)) = false := decide_eq_false (by omega)
    have HBH : Hid (bh.length ≤ 1000) := hide (by omega)
    clear hn
    go_wp2_with fail
    refine (schPack w3 id _ c A l hr3 (sized_small HSM.out)).mono ?_
    rintro e w4 ⟨v4, rfl, ho4, hb4⟩
    obtain ⟨p, hp⟩ : ∃ p, p = pack id l := ⟨_, rfl⟩
    rw [← hp] at ho4
    have HP := hide hp
    have HPL : Hid (p.length ≤ 600000) := hide (by rw [hp]; exact pack_le HSM.out)
    obtain ⟨pA, pc, rfl, hrp4⟩ := Rd.of_own ho4
    have x4 := x3.keep hb4 x3.z
    have hr4 := (hr3.below hb4).more hb4.size
    have hrb4 := (hrb3.below hb4).more hb4.size
    have hB4 : Below w.heap.size w w4 := below_call hB3 hB3.size hb4
    clear x3 hr3 hrb3 hB3 hb4 s0 s1 ho4 hp t1
    have s0 := x4.cell 0 _ rfl
    have s1 := x4.cell 1 _ rfl
    have hcv0 := run_str (P := Try.prog) w4.drew Try.underlying54 Try.underlying5 Try.underlying9 hrp4.drew
    go_wp2_with fail
    go_cut [25] from 20 to 26 (fun bv wx => bv = .bool false ∧ Below w4.heap.size w4 wx)
    case first =>
      go_region_with (go_at_call 32; refine (refPack w4.drew id _ c A l hr4.drew (sized_small HSM.out)).mono ?_; rintro e w5 ⟨v5, rfl, ho5, hb5⟩; rw [← HP.out] at ho5; obtain ⟨qA, qc, rfl, hrq5⟩ := Rd.of_own ho5; have hb5' := below_of_drew hb5; have d0 := (x4.keep hb5' x4.z).cell 0 _ rfl; have d1 := (x4.keep hb5' x4.z).cell 1 _ rfl; have hcv1 := run_str (P := Try.prog) w5 Try.underlying54 Try.underlying5 Try.underlying9 (hrp4.below hb5'); have hcv2 := run_str (P := Try.prog) w5 Try.underlying54 Try.underlying5 Try.underlying9 hrq5)
      all_goals (try go_wp2_with fail)
      all_goals go_meet
      all_goals exact ⟨rfl, below_of_drew hb5⟩
    case rest =>
      obtain ⟨rfl, hb5'⟩ := hcut
      obtain ⟨w5, hw5⟩ : ∃ w5, w5 = wc := ⟨_, rfl⟩
      rw [← hw5] at hb5' ⊢
      clear hw5
      have x5 := x4.keep hb5' x4.z
      have hr5 := (hr4.below hb5').more hb5'.size
      have hrb5 := (hrb4.below hb5').more hb5'.size
      have hrp5 := (hrp4.below hb5').more hb5'.size
      have hB5 : Below w.heap.size w w5 := below_call hB4 hB4.size hb5'
      clear x4 hr4 hrb4 hB4 hb5' s0 s1 hrp4 hcv0
      have hlit := own_lit w5 (base := w5.heap.size) 5 1 0 #[] (Nat.le_refl _) (by decide) rfl
      have hbl := (Below.refl w5.heap.size w5).alloc (Nat.le_refl _) (.cells #[] 5)
      have hrpl := hrp5.below hbl
      obtain ⟨q, hq⟩ : ∃ q, q = p ++ bh := ⟨_, rfl⟩
      have HQ := hide hq
      have hql : q.length = p.length + bh.length := by rw [hq, List.length_append]
      have HQL := hide hql
      clear hq hql
      go_wp2_with (first
        | (at_builtin; refine wpList_app _ tyBytes rfl (.tmp 27) (.tmp 28) rfl w5.heap.size _ 0 [] rfl hlit w5.heap.size pA _ pc _ rfl hrpl (bytesV_one p) (by have := HPL.out; omega) (by simp) ?_; intro v6 w6 hown6 hg6 _; simp only [Nat.zero_add, List.nil_append] at hown6; have hb6 := below_app hbl (Nat.le_refl _) hlit hg6 (by simp); have hrb6 := hrb5.below hb6; clear hg6)
        | (at_builtin; refine wpList_app _ tyBytes rfl (.tmp 29) (.tmp 30) rfl w5.heap.size _ _ _ rfl hown6 w5.heap.size Bh _ bc _ rfl hrb6 (bytesV_one bh) (by have := HPL.out; have := HBH.out; omega) hb6.size ?_; intro v7 w7 hown7 hg7 _; have hb7 := below_app hb6 (Nat.le_refl _) hown6 hg7 hb6.size; have hown7' : w7.ownsRow w5.heap.size 5 1 v7 q.length (bytesV q) := (by rw [HQ.out, List.length_append, bytesV_append]; exact hown7); obtain ⟨uA, uc, rfl, hru⟩ := Rd.of_own hown7'; clear hg7 hown7 hown7'))
      have hBl := below_call hB5 hB5.size (Below.refl w5.heap.size w5)
      have hB7 : Below w.heap.size w w7 := hB5.trans (hb7.mono hB5.size)
      have x7 := x5.keep hb7 x5.z
      have hr7 := (hr5.below hb7).more hb7.size
      have hrb7 := (hrb5.below hb7).more hb7.size
      clear x5 hr5 hrb5 hB5 hrp5 hlit hbl hrpl hown6 hb6 hrb6 hb7 hBl
      refine (schUnpack w7 _ uc uA q hru (by have := HPL.out; have := HBH.out; have := HQL.out; omega)).mono ?_
      rintro e w8 ⟨F, fc, L, lc, rfl, hrf, hrl, hb8⟩
      have x8 := x7.keep hb8 x7.z
      have hr8 := (hr7.below hb8).more hb8.size
      have hrb8 := (hrb7.below hb8).more hb8.size
      have hB8 : Below w.heap.size w w8 := below_call hB7 hB7.size hb8
      clear x7 hr7 hrb7 hB7 hb8 hru
      by_cases hck : check id l = 0
      · have hu := pack_unp hck bh
        rw [← HP.out, ← HQ.out] at hu
        obtain ⟨q1, q2, q3⟩ := unp_ok hu
        have q4 : (rdS q 0).err = 0 := by rw [hu]
        rw [q2] at hrf
        rw [q3] at hrl
        rw [q1, q2, q3, q4]
        have hckI : (check id l : Int) = 0 := by rw [hck]; rfl
        have HCK := hide hck
        clear hck hu q1 q2 q3 q4
        have hbA := (Below.refl w8.heap.size w8).alloc (Nat.le_refl _) (.cells #[.int .u32 (id.toNat : Int), .slice F l.length fc] 25)
        have s0 := (x8.keep hbA x8.z).cell 0 _ rfl
        have s1 := (x8.keep hbA x8.z).cell 1 _ rfl
        go_wp2_with fail
        clear s0 s1 hbA
        have y8 := boxN_new w8 #[.int .u32 (id.toNat : Int), .slice F l.length fc] 25
        have hbA := (Below.refl w8.heap.size w8).alloc (Nat.le_refl _) (.cells #[.int .u32 (id.toNat : Int), .slice F l.length fc] 25)
        have x9 := x8.keep hbA x8.z
        have hr9 := (hr8.below hbA).more hbA.size
        have hrb9 := (hrb8.below hbA).more hbA.size
        have hrf9 := (hrf.below hbA).more hbA.size
        have hrl9 := (hrl.below hbA).more hbA.size
        have hB9 := below_call hB8 hB8.size hbA
        generalize w8.alloc (.cells #[.int .u32 (id.toNat : Int), .slice F l.length fc] 25) = w9 at *
        generalize w8.heap.size = bt at *
        clear x8 hr8 hrb8 hrf hrl hB8 hbA
        refine (refCheck w9 id _ c A l hr9).mono ?_
        rintro e wA ⟨rfl, hb10⟩
        rw [hckI]
        have xA := x9.keep hb10 x9.z
        have yA := y8.keep hb10 y8.z
        have hrA := (hr9.below hb10).more hb10.size
        have hrbA := (hrb9.below hb10).more hb10.size
        have hrfA := (hrf9.below hb10).more hb10.size
        have hrlA := (hrl9.below hb10).more hb10.size
        have hBA := below_call hB9 hB9.size hb10
        clear x9 y8 hr9 hrb9 hrf9 hrl9 hB9 hb10 hckI
        have s0 := xA.cell 0 _ rfl
        have s1 := xA.cell 1 _ rfl
        have u0 := yA.cell 0 _ rfl
        have u1 := yA.cell 1 _ rfl
        go_wp2_with fail
        refine (refSame wA id id _ c _ fc A F l l hrA hrfA).mono ?_
        rintro e wB ⟨rfl, hb11⟩
        simp only [sameSch_refl]
        have hcv1 := run_str (P := Try.prog) wB Try.underlying54 Try.underlying5 Try.underlying9 (hrlA.below hb11)
        have hcv2 := run_str (P := Try.prog) wB Try.underlying54 Try.underlying5 Try.underlying9 (hrbA.below hb11)
        go_wp2_with fail
        go_ret
        exact ⟨rfl, below_call hBA hBA.size hb11⟩
      · have hu := rdS_bad id l bh (fun f hf => by have := small_mem HSM.out f hf; omega) (by have := HSM.out.1; omega) hck
        rw [← HP.out, ← HQ.out] at hu
        have t2 : ((check id l : Int) != 0) = true := by rw [bne_iff_ne]; omega
        obtain ⟨er, her⟩ : ∃ er, er = (rdS q 0).err := ⟨_, rfl⟩
        rw [← her] at hu ⊢
        have t3 : ((er : Int) != 0) = true := by rw [bne_iff_ne]; omega
        obtain ⟨ui, hui⟩ : ∃ i, i = uId q := ⟨_, rfl⟩
        obtain ⟨uf, huf⟩ : ∃ i, i = uFs q := ⟨_, rfl⟩
        obtain ⟨ul, hul⟩ : ∃ i, i = uLeft q := ⟨_, rfl⟩
        rw [← hui, ← huf, ← hul]
        have HCK := hide hck
        clear hck hu her hui huf hul
        generalize hce : check id l = ck at *
        have HCE := hide hce
        clear hce
        have hbA := (Below.refl w8.heap.size w8).alloc (Nat.le_refl _) (.cells #[.int .u32 (ui.toNat : Int), .slice F uf.length fc] 25)
        have s0 := (x8.keep hbA x8.z).cell 0 _ rfl
        have s1 := (x8.keep hbA x8.z).cell 1 _ rfl
        go_wp2_with fail
        clear s0 s1 hbA
        have hbA := (Below.refl w8.heap.size w8).alloc (Nat.le_refl _) (.cells #[.int .u32 (ui.toNat : Int), .slice F uf.length fc] 25)
        have hr9 := (hr8.below hbA).more hbA.size
        have hB9 := below_call hB8 hB8.size hbA
        generalize w8.alloc (.cells #[.int .u32 (ui.toNat : Int), .slice F uf.length fc] 25) = w9 at *
        refine (refCheck w9 id _ c A l hr9).mono ?_
        rintro e wA ⟨rfl, hb10⟩
        rw [HCE.out]
        go_wp2_with fail
        go_ret
        exact ⟨rfl, below_call hB9 hB9.size hb10⟩

set_option maxRecDepth 100000 in
theorem lifted (os : Os) (started : os.Started) (H : Type) (enc : TypeId × Value → H) :
    ReturnsInHanded {} Try.checked os 8 .any (Rows.schemaPacksSpec.pre6 enc Try.prog Try.f8 Rows.schemaPacksRow.domain false) (Rows.schemaPacksSpec.post enc Try.prog Try.f8 false true false false) := by
  refine returnsInHanded_of_change (C := Try.checked) own started (by kernel_rfl) Try.func8
    (ChangeSpec.witness6 (enc := enc) (C := Try.checked) false ⟨#[], #[.agg #[.int .u32 0, .slice none 0 0], .slice none 0 0], []⟩ 8 (by kernel_rfl) (by kernel_rfl) (by kernel_rfl) (by kernel_rfl)) ?_
  intro W base args ds gs before hval0 hW hcnd _
  have hval : ∀ (j : Nat) t v, Try.f8.params[j]? = some t → args[j]? = some v → Value.okWide Try.prog W .any base t v := hval0
  have hW' := hW
  obtain ⟨p, q, hA0, hV, rfl, hfz, hnd⟩ := hW
  have hA : DataW.TrodAll enc Try.prog W 0 (fun _ => true) true Try.f8.params.toList args.toList ds p := hA0
  rw [Try.params8] at hA hval
  obtain ⟨v0, vs0, d0, ds0, p0, q0, hargs, rfl, rfl, h0, r0⟩ := trodAll_cons hA
  obtain ⟨v1, vs1, d1, ds1, p1, q1, rfl, rfl, rfl, h1, r1⟩ := trodAll_cons r0
  obtain ⟨rfl, rfl, rfl⟩ := trodAll_nil r1
  obtain rfl : args = #[v0, v1] := by cases args; simp_all
  obtain ⟨rfl, rfl⟩ := trodVars_none hV
  have k0 := h0
  have lt0 : ∀ x ∈ p0, x.block < W.heap.size := by obtain ⟨m, hm⟩ := k0; exact DataW.trod_lt m _ _ _ hm
  have k1 := h1
  have lt1 : ∀ x ∈ p1, x.block < W.heap.size := by obtain ⟨m, hm⟩ := k1; exact DataW.trod_lt m _ _ _ hm
  obtain ⟨id0, A0, n0, c0, l0, rfl, w0⟩ := frame_schema (hval 0 25 v0 rfl rfl) h0
  obtain ⟨A1, n1, c1, l1, rfl, w1, hr1⟩ := frame_bytes Try.underlying54 Try.underlying5 (by kernel_rfl) (hval 1 54 v1 rfl rfl) h1
  clear hA0 hval0
  refine (walk W id0 A0 n0 c0 l0 w0 A1 n1 c1 l1 w1).mono fun e W' ⟨he, bel⟩ => ?_
  subst he
  exact ⟨_, rfl, _, _, _, [], _, [], hW', trodAll_mk1 (shut_bool Try.underlying4 _), (trodAll_cons_mk (Below.trod laidOut (by kernel_rfl) (of_decide_eq_true (by kernel_rfl)) k0 bel lt0) (trodAll_cons_mk (Below.trod laidOut (by kernel_rfl) (of_decide_eq_true (by kernel_rfl)) k1 bel lt1) trodAll_mk0)), rfl, bel.frame _, fun h => by cases h⟩

theorem over : Rows.schemaPacksRow.holds Try.pinned (OpenSpec.ofChange Rows.schemaPacksSpec) :=
  OpenClaim.holds_of_wide 8 Try.f8 rfl rfl rfl rfl rfl rfl rfl ⟨rfl, rfl, rfl, rfl, rfl⟩ rfl rfl rfl rfl rfl (by kernel_rfl) Try.func8 (by kernel_rfl)
    (of_decide_eq_true (by kernel_rfl)) (by unfold Func.isWrapper; first | (rw [if_pos (by decide +kernel)]; kernel_rfl) | (rw [if_neg (by decide +kernel)]; exact ⟨rfl, rfl⟩))
    (fun os started H enc _ => lifted os started H enc)

theorem proved : Rows.SchemaPacksSaid := over
#print axioms proved
end Go.Proofs.Ytlccpchlclpnaaa.schemaPacks
