/- MetaWrites: for every input the law returns true, and what was there is as it was; the table as the program's text lays it: the card. -/
import Derived.Test.YtlccpchlclpnaaaDoorCards
import Derived.Test.YtlccpchlclpnaaaDoorTie
import Derived.WalkKit
import Derived.ProofKit
import Derived.OpenShut
import Derived.Deep.DeepHandedRow
import Derived.Lib.LaidTab
import Derived.Test.YtlccpchlclpnaaaDoorMetaOL
namespace Go.Proofs.YtlccpchlclpnaaaDoor.metaWrites
open Go.Proofs.YtlccpchlclpnaaaDoor
open Go.ChangeShapes Go.WideShapes Go.ChangeAt Go.RowKit
open Go.ChangeMaps (open_string shut_string)

theorem own : ownKnob Tryd.prog.godebug = none := by kernel_rfl
theorem laidOut : laidOutB Tryd.prog = true := by kernel_rfl
theorem gTab : Tryd.prog.globalNamed "catchment/crc.half" = some 0 := by kernel_rfl
theorem gTabType : (Tryd.prog.globals[0]?).map (·.type) = some 117 := by kernel_rfl
theorem cellsT : Tryd.prog.cellsOf 117 = 16 := by kernel_rfl
theorem cellsE : Tryd.prog.cellsOf 27 = 1 := by kernel_rfl
def nums : List Int := [0, 498536548, 997073096, 651767980, 1994146192, 1802195444, 1303535960, 1342533948, 3988292384, 4027552580, 3604390888, 3412177804, 2607071920, 2262029012, 2685067896, 3183342108]
theorem nums_tab : ∀ j, j < 16 → nums.getD j 0 = ((Crc.tab j).toNat : Int) := by decide
theorem table {W : World} (h : laidMetH Tryd.prog Rows.metaWritesRow.laid W) : Table W := fun j hj => by
  have ht : Lib.TabIs Tryd.prog W "catchment/crc.half" .u32 nums := Lib.tabIs_of_head (rest := []) gTab gTabType Tryd.underlying117 Tryd.underlying27 cellsE cellsT h
  have := ht.cell gTab j hj
  rw [nums_tab j hj] at this
  exact this

theorem wrS_len {ss : List Ps} {ns : List Sn} {cur : Nat} (h : rightP ss ns cur = true) : (wrS ss ns).length ≤ 20000 := by
  obtain ⟨⟨h1, h2, h3⟩, h4, h5⟩ := right_has h
  have a := packs_le h4
  have b := snBs_le h5
  have e1 := put_le10' ss.length (by omega)
  have e2 := put_le10' ns.length (by omega)
  have : ss.length * 400 ≤ 16 * 400 := Nat.mul_le_mul_right _ h2
  have : ns.length * 342 ≤ 32 * 342 := Nat.mul_le_mul_right _ h3
  unfold wrS
  rw [seal_length]
  unfold wrT wr1 wr0
  simp only [List.length_append]
  have : tf1.length = 3 := rfl
  omega
theorem wrEnd_res {w w' : World} {ss : List Ps} {ns : List Sn} {cur : Nat} {e : Ending} (h : WrEnd w ss ns cur e w') : ∃ A c, e = .returned (.tuple #[.slice A (if rightP ss ns cur = true then wrS ss ns else []).length c, .int .i64 ((if rightP ss ns cur = true then 0 else 1 : Nat) : Int)]) ∧
    Rd w' w'.heap.size 1 A (if rightP ss ns cur = true then wrS ss ns else []).length c (bytesV (if rightP ss ns cur = true then wrS ss ns else [])) ∧ Below w.heap.size w w' := by
  rcases h with ⟨hr, v, rfl, ho, hb⟩ | ⟨hr, rfl, hb⟩
  · obtain ⟨A, c, rfl, hrd⟩ := Rd.of_own ho
    simp only [if_pos hr]
    exact ⟨A, c, rfl, hrd, hb⟩
  · have hr' : ¬ rightP ss ns cur = true := by rw [hr]; simp
    simp only [if_neg hr']
    exact ⟨none, 0, rfl, Rd.nil _ _ _, hb⟩
set_option maxRecDepth 100000 in
set_option maxHeartbeats 8000000 in
theorem walk (w : World) (ht : Table w) (sA : Option Addr) (sc : Nat) (ss : List Sl) (nA : Option Addr) (nc : Nat) (ns : List Nl) (cur : UInt64) (hT : TabR w w.heap.size sA sc ss nA nc ns) :
    Calls Tryd.prog 4 #[.agg #[.slice sA ss.length sc, .slice nA ns.length nc, .int .u64 (cur.toNat : Int)]] w (RetVal w (.bool true)) := by
  have HT := hide ht
  have hpos := ht.pos
  clear ht
  obtain ⟨cu, hcu⟩ : ∃ cu : Nat, cu = cur.toNat := ⟨_, rfl⟩
  rw [← hcu]
  clear hcu cur
  go_enter Tryd.func4, Tryd.ntmps4
  go_wp2_with fail
  have x1 := boxN_new w #[.slice sA ss.length sc, .slice nA ns.length nc, .int .u64 (cu : Int)] 26
  have hb1 := (Below.refl w.heap.size w).alloc (Nat.le_refl _) (.cells #[.slice sA ss.length sc, .slice nA ns.length nc, .int .u64 (cu : Int)] 26)
  generalize w.alloc (.cells #[.slice sA ss.length sc, .slice nA ns.length nc, .int .u64 (cu : Int)] 26) = w2 at *
  obtain ⟨b2, hb2e⟩ : ∃ b, b = w.heap.size := ⟨_, rfl⟩
  rw [← hb2e] at x1 ⊢
  clear hb2e
  refine (alive14 w2).mono ?_
  rintro e w3 ⟨rfl, hb⟩
  have X3 := x1.keep hb x1.z
  have hB3 := below_call hb1 hb1.size hb
  have c0 := X3.cell 0 _ rfl
  have c1 := X3.cell 1 _ rfl
  have c2 := X3.cell 2 _ rfl
  have hT3 := hT.later hB3
  clear x1 hb1 hb
  go_wp2_with fail
  refine (refGreat14 w3 sA sc ss nA nc ns cu hT3).mono ?_
  rintro e w4 ⟨g, rfl, hsm, hb⟩
  have X4 := X3.keep hb X3.z
  have hB4 := below_call hB3 hB3.size hb
  clear X3 hB3 hb c0 c1 c2 hT3
  cases g with
  | true =>
    go_wp2_with fail
    go_ret
    exact ⟨rfl, hB4⟩
  | false =>
  have hsm1 := hide (hsm rfl)
  clear hsm
  have hms : Hid (∀ s ∈ ns, ∀ m ∈ s.p.ms, m.size ≤ 9223372036854775807) := hide (fun s hs m hm => by
    obtain ⟨j, hj, rfl⟩ := List.mem_iff_getElem.1 hs
    obtain ⟨k, hk, rfl⟩ := List.mem_iff_getElem.1 hm
    have h := (hsm1.out.2.2.2 j hj).2
    rw [getD_at _ _ hj] at h
    have h := h k hk
    rw [getD_at _ _ hk] at h
    omega)
  clear hsm1
  obtain ⟨R, hR⟩ : ∃ R, rightP (ss.map plS) (ns.map plN) cu = R := ⟨_, rfl⟩
  obtain ⟨L, hL⟩ : ∃ L, (if rightP (ss.map plS) (ns.map plN) cu = true then wrS (ss.map plS) (ns.map plN) else []) = L := ⟨_, rfl⟩
  obtain ⟨er, her⟩ : ∃ er : Nat, (if rightP (ss.map plS) (ns.map plN) cu = true then 0 else 1 : Nat) = er := ⟨_, rfl⟩
  have c0 := X4.cell 0 _ rfl
  have c1 := X4.cell 1 _ rfl
  have c2 := X4.cell 2 _ rfl
  go_wp2_with fail
  refine (metaWrite w4 sA sc ss nA nc ns cu (hT.later hB4) (HT.out.below hB4 hpos)).mono ?_
  intro e w5 hwr
  obtain ⟨A5, n5, rfl, hr5, hb⟩ := wrEnd_res hwr
  rw [hL] at hr5 ⊢
  rw [her]
  have X5 := X4.keep hb X4.z
  have hB5 := below_call hB4 hB4.size hb
  clear hwr X4 hB4 hb c0 c1 c2
  have c0 := X5.cell 0 _ rfl
  have c1 := X5.cell 1 _ rfl
  have c2 := X5.cell 2 _ rfl
  go_wp2_with fail
  refine (refWrite14 w5 sA sc ss nA nc ns cu (hT.later hB5) hms.out).mono ?_
  intro e w6 hwr
  obtain ⟨A6, n6, rfl, hr6, hb⟩ := wrEnd_res hwr
  rw [hL] at hr6 ⊢
  rw [her]
  have X6 := X5.keep hb X5.z
  have hB6 := below_call hB5 hB5.size hb
  have hr5 := (hr5.below hb).more hb.size
  have HF := hide (And.intro hR (And.intro hL her))
  clear hwr X5 hB5 hb c0 c1 c2 hR hL her
  have c0 := X6.cell 0 _ rfl
  have c1 := X6.cell 1 _ rfl
  have c2 := X6.cell 2 _ rfl
  go_wp2_with fail
  have zx : b2 < w6.drew.heap.size := X6.z
  have hT6 := (hT.later hB6).drew
  have hr5d := hr5.drew
  have hr6d := hr6.drew
  have t3 : (R != R) = false := by simp
  refine wp_region_abs ext_grow (by kernel_rfl) (by kernel_rfl) ?_
  simp only [List.map_cons, List.map_nil]
  refine wpA_value ext_grow ?_ (fun _ _ h => by cases h) rfl rfl ?_ ?_
  rotate_left 1
  · intro w' hw' C hC
    go_simp
    try go_bits
    exact hC
  simp only [putS, List.set_cons_succ, List.set_cons_zero]
  refine wpA_value ext_grow ?_ (fun _ _ h => by cases h) rfl rfl ?_ ?_
  rotate_left 1
  · intro w' hw' C hC
    go_simp
    try go_bits
    exact hC
  simp only [putS, List.set_cons_succ, List.set_cons_zero]
  refine wpA_value ext_grow ?_ (fun _ _ h => by cases h) rfl rfl ?_ ?_
  rotate_left 1
  · intro w' hw' C hC
    go_simp
    try go_bits
    exact hC
  simp only [putS, List.set_cons_succ, List.set_cons_zero]
  refine wpA_value ext_grow ?_ (fun _ _ h => by cases h) rfl rfl ?_ ?_
  rotate_left 1
  · intro w' hw' C hC
    go_simp
    try go_bits
    exact hC
  simp only [putS, List.set_cons_succ, List.set_cons_zero]
  refine wpA_value ext_grow ?_ (fun _ _ h => by cases h) rfl rfl ?_ ?_
  rotate_left 1
  · intro w' hw' C hC
    go_simp
    try go_bits
    exact hC
  simp only [putS, List.set_cons_succ, List.set_cons_zero]
  refine wpA_value ext_grow ?_ (fun _ _ h => by cases h) rfl rfl ?_ ?_
  rotate_left 1
  · intro w' hw' C hC
    have q := run_str (P := Tryd.prog) w' Tryd.underlying34 Tryd.underlying5 Tryd.underlying9 ((hr5d.below hw').more hw'.size)
    go_simp
    try go_bits
    exact hC
  simp only [putS, List.set_cons_succ, List.set_cons_zero]
  refine wpA_value ext_grow ?_ (fun _ _ h => by cases h) rfl rfl ?_ ?_
  rotate_left 1
  · intro w' hw' C hC
    go_simp
    try go_bits
    exact hC
  simp only [putS, List.set_cons_succ, List.set_cons_zero]
  refine wpA_value ext_grow ?_ (fun _ _ h => by cases h) rfl rfl ?_ ?_
  rotate_left 1
  · intro w' hw' C hC
    have q := run_str (P := Tryd.prog) w' Tryd.underlying34 Tryd.underlying5 Tryd.underlying9 ((hr6d.below hw').more hw'.size)
    go_simp
    try go_bits
    exact hC
  simp only [putS, List.set_cons_succ, List.set_cons_zero]
  refine wpA_value ext_grow ?_ (fun _ _ h => by cases h) rfl rfl ?_ ?_
  rotate_left 1
  · intro w' hw' C hC
    go_simp
    try go_bits
    exact hC
  simp only [putS, List.set_cons_succ, List.set_cons_zero]
  refine wpA_value ext_grow ?_ (fun _ _ h => by cases h) rfl rfl ?_ ?_
  rotate_left 1
  · intro w' hw' C hC
    go_simp
    try go_bits
    exact hC
  simp only [putS, List.set_cons_succ, List.set_cons_zero]
  refine wpA_value ext_grow ?_ (fun _ _ h => by cases h) rfl rfl ?_ ?_
  rotate_left 1
  · intro w' hw' C hC
    go_simp
    try go_bits
    exact hC
  simp only [putS, List.set_cons_succ, List.set_cons_zero]
  refine wpA_value ext_grow ?_ (fun _ _ h => by cases h) rfl rfl ?_ ?_
  rotate_left 1
  · intro w' hw' C hC
    have q0 := (hw'.cell (p := ⟨b2, 0, none⟩) zx).trans c0
    have q1 := (hw'.cell (p := ⟨b2, 1, none⟩) zx).trans c1
    have q2 := (hw'.cell (p := ⟨b2, 2, none⟩) zx).trans c2
    go_simp
    try go_bits
    exact hC
  simp only [putS, List.set_cons_succ, List.set_cons_zero]
  refine wpA_known (.is (.bool R)) (fun _ _ h => by cases h) rfl rfl (mono_is _) (fun w' hw' => ?_) ?_
  · go_simp
    exact ⟨Below.refl _ _, (metaRight w' sA sc ss nA nc ns cu (hT6.later hw')).mono fun e w'' h => is_ret (show e = .returned (.bool R) from by rw [← HF.out.1]; exact h.1) h.2⟩
  simp only [putS, List.set_cons_succ, List.set_cons_zero]
  refine wpA_value ext_grow ?_ (fun _ _ h => by cases h) rfl rfl ?_ ?_
  rotate_left 1
  · intro w' hw' C hC
    have q0 := (hw'.cell (p := ⟨b2, 0, none⟩) zx).trans c0
    have q1 := (hw'.cell (p := ⟨b2, 1, none⟩) zx).trans c1
    have q2 := (hw'.cell (p := ⟨b2, 2, none⟩) zx).trans c2
    go_simp
    try go_bits
    exact hC
  simp only [putS, List.set_cons_succ, List.set_cons_zero]
  refine wpA_known (.is (.bool R)) (fun _ _ h => by cases h) rfl rfl (mono_is _) (fun w' hw' => ?_) ?_
  · go_simp
    exact ⟨Below.refl _ _, (refRight w' sA sc ss nA nc ns cu (hT6.later hw') hms.out).mono fun e w'' h => is_ret (show e = .returned (.bool R) from by rw [← HF.out.1]; exact h.1) h.2⟩
  simp only [putS, List.set_cons_succ, List.set_cons_zero]
  refine wpA_value ext_grow ?_ (fun _ _ h => by cases h) rfl rfl ?_ ?_
  rotate_left 1
  · intro w' hw' C hC
    go_simp
    try go_bits
    exact hC
  simp only [putS, List.set_cons_succ, List.set_cons_zero]
  refine wpA_value ext_grow ?_ (fun _ _ h => by cases h) rfl rfl ?_ ?_
  rotate_left 1
  · intro w' hw' C hC
    go_simp
    try go_bits
    exact hC
  simp only [putS, List.set_cons_succ, List.set_cons_zero]
  intro wd hwd
  simp only [openS]
  have hbd := below_of_drew hwd
  have X7 := X6.keep hbd X6.z
  have hB7 := below_call hB6 hB6.size hbd
  have r7 := (hr5.below hbd).more hbd.size
  have hL30 : L.length ≤ 1000000 := by
    rw [← HF.out.2.1]
    split
    · rename_i q
      exact Nat.le_trans (wrS_len q) (by decide)
    · simp
  clear hbd hwd X6 hB6 hr5 hr6 hr5d hr6d c0 c1 c2 zx hT6 t3
  go_wp2_with fail
  refine (metaOpen wd A5 n5 L r7 (HT.out.below hB7 hpos) hL30).mono ?_
  intro e w8 hop
  obtain ⟨tA, tc, ts, mA, mc, ms, cv, rfl, O8, hb8, hz, hbad⟩ := opEnd_split hop
  obtain ⟨ge, hge⟩ : ∃ ge, oErr L = ge := ⟨_, rfl⟩
  have hsame : er = 0 → ge = 0 ∧ ss.map plS = ts.map plS ∧ ns.map plN = ms.map plN ∧ cv = cu := fun h0 => by
    obtain ⟨f1, f2, f3⟩ := HF.out
    by_cases hp : rightP (ss.map plS) (ns.map plN) cu = true
    · rw [if_pos hp] at f2
      have hz0 := oErr_wr hp
      obtain ⟨_, hbw⟩ := body_wr (ss.map plS) (ns.map plN)
      have hov := opn_wr hp
      rw [f2] at hz0 hbw
      obtain ⟨q1, q2, q3⟩ := hz hz0
      rw [hbw, hov] at q1 q2 q3
      exact ⟨hge.symm.trans hz0, q1.symm, q2.symm, q3.trans (right_cur hp).symm⟩
    · rw [if_neg hp] at f3
      omega
  rw [hge]
  have HS := hide hsame
  have x9 := boxN_new w8 #[.slice tA ts.length tc, .slice mA ms.length mc, .int .u64 (cv : Int)] 26
  have hbA := (Below.refl w8.heap.size w8).alloc (Nat.le_refl _) (.cells #[.slice tA ts.length tc, .slice mA ms.length mc, .int .u64 (cv : Int)] 26)
  have O9 := O8.keep hbA
  have hb9 := below_call hb8 hb8.size hbA
  have X9 := X7.keep hb9 X7.z
  have hB9 := below_call hB7 hB7.size hb9
  have HO := hide O9
  clear hop hz hbad hge hsame O8 hb8 hbA hb9 X7 O9 r7 hB7
  go_upto_region 10 with fail
  generalize w8.alloc (.cells #[.slice tA ts.length tc, .slice mA ms.length mc, .int .u64 (cv : Int)] 26) = w9 at *
  generalize w8.heap.size = b9 at *
  have c0 := X9.cell 0 _ rfl
  have c1 := X9.cell 1 _ rfl
  have c2 := X9.cell 2 _ rfl
  have d0 := x9.cell 0 _ rfl
  have d1 := x9.cell 1 _ rfl
  have d2 := x9.cell 2 _ rfl
  by_cases h0 : er = 0
  · obtain ⟨rfl, hs, hn, rfl⟩ := HS.out h0
    subst h0
    have HSN := hide (And.intro hs hn)
    clear hs hn
    go_wp2_with fail
    refine (refSameT w9 sA tA sc tc ss ts nA mA nc mc ns ms cv (hT.later hB9) HO.out.tab HSN.out.1 HSN.out.2).mono ?_
    rintro e w10 ⟨rfl, hb10⟩
    go_wp2_with fail
    go_ret
    exact ⟨rfl, below_call hB9 hB9.size hb10⟩
  · have t4 : ((er : Int) == 0) = false := by rw [beq_eq_false_iff_ne]; omega
    have t5 : ((er : Int) != 0) = true := by rw [bne_iff_ne]; omega
    go_wp2_with fail
    go_ret
    exact ⟨rfl, hB9⟩

set_option maxRecDepth 100000 in
theorem contract (H : Type) (enc : TypeId × Value → H) (W : World) (base : Nat) (args : Array Value) (ds gs : List (DataW H)) (before : List MemPlace)
    (hval0 : ∀ (j : Nat) t v, Tryd.f4.params[j]? = some t → args[j]? = some v → Value.okWide Tryd.prog W .any base t v)
    (hW : DataW.Whole enc Tryd.prog Tryd.f4.params.toList Rows.metaWritesSpec.vars false W args.toList ds gs before) (hL : laidMetH Tryd.prog Rows.metaWritesRow.laid W) :
    Calls Tryd.prog 4 args W fun e W' => ∃ v, e = .returned v ∧ Rows.metaWritesSpec.post enc Tryd.prog Tryd.f4 false true false false W args v W' := by
  have hval : ∀ (j : Nat) t v, Tryd.f4.params[j]? = some t → args[j]? = some v → Value.okWide Tryd.prog W .any base t v := hval0
  have hW' := hW
  obtain ⟨p, q, hA0, hV, rfl, hfz, hnd⟩ := hW
  have hA : DataW.TrodAll enc Tryd.prog W 0 (fun _ => true) true Tryd.f4.params.toList args.toList ds p := hA0
  rw [Tryd.params4] at hA hval
  obtain ⟨v0, vs0, d0, ds0, p0, q0, hargs, rfl, rfl, h0, r0⟩ := trodAll_cons hA
  obtain ⟨rfl, rfl, rfl⟩ := trodAll_nil r0
  obtain rfl : args = #[v0] := by cases args; simp_all
  obtain ⟨rfl, rfl⟩ := trodVars_none hV
  have k0 := h0
  have lt0 : ∀ x ∈ p0, x.block < W.heap.size := by obtain ⟨m, hm⟩ := k0; exact DataW.trod_lt m _ _ _ hm
  obtain ⟨sA0, sc0, ss0, nA0, nc0, ns0, cur0, rfl, w0⟩ := frame_table (hval 0 26 v0 rfl rfl) h0
  clear hA0 hval0
  refine (walk W (table hL) sA0 sc0 ss0 nA0 nc0 ns0 cur0 w0).mono fun e W' ⟨he, bel⟩ => ?_
  subst he
  exact ⟨_, rfl, _, _, _, [], _, [], hW', trodAll_mk1 (shut_bool Tryd.underlying4 _), (trodAll_cons_mk (Below.trod laidOut (by kernel_rfl) (of_decide_eq_true (by kernel_rfl)) k0 bel lt0) trodAll_mk0), rfl, bel.frame _, fun h => by cases h⟩

/-- a world for the witness: the table holds what its initialiser lays -/
noncomputable def laidWorld (os : Os) : World :=
  { World.holding Tryd.prog os ⟨#[], #[], []⟩ with heap := (World.holding Tryd.prog os ⟨#[], #[], []⟩).heap.modify 0 fun
      | .cells _ t frozen => .cells (nums.map (Value.int .u32)).toArray t frozen
      | o => o }
theorem laid_met (os : Os) : laidMet Tryd.prog Rows.metaWritesRow.laid ((laidWorld os).forCall (fun _ _ => 0) ⟨#[], #[.agg #[.slice none 0 0, .slice none 0 0, .int .u64 0]], []⟩).memory :=
  laidMet_of_run' 8 (by kernel_rfl) (by kernel_rfl)
theorem reads (os : Os) {H : Type} (enc : TypeId × Value → H) : ∃ places, DataW.whole enc Tryd.prog ((laidWorld os).forCall (fun _ _ => 0) ⟨#[], #[.agg #[.slice none 0 0, .slice none 0 0, .int .u64 0]], []⟩).memory Tryd.f4.params.toList Rows.metaWritesSpec.vars false (#[.agg #[.slice none 0 0, .slice none 0 0, .int .u64 0]] : Array Value).toList 8 = some ([.agg [.nil, .nil, .lit (.int .u64 0)]], [], places) :=
  ⟨[], by kernel_rfl⟩

set_option maxRecDepth 100000 in
theorem lifted (os : Os) (started : os.Started) (H : Type) (enc : TypeId × Value → H) (F : Stop.Interp) :
    ReturnsInHanded {} Tryd.checked os 4 .any ((OpenSpec.ofChange Rows.metaWritesSpec).preRow enc Tryd.prog Tryd.f4 Rows.metaWritesRow.domain false Rows.metaWritesRow.laid) (((OpenSpec.ofChange Rows.metaWritesSpec).at F).post enc Tryd.prog Tryd.f4 false true false false) := by
  obtain ⟨places, hx⟩ := reads os enc
  refine returnsInHanded_of_row (C := Tryd.checked) (s := OpenSpec.ofChange Rows.metaWritesSpec) own started (by kernel_rfl) Tryd.func4
    (witness_row_at (enc := enc) (C := Tryd.checked) false (laidWorld os) #[.agg #[.slice none 0 0, .slice none 0 0, .int .u64 0]] rfl (by kernel_rfl) (by kernel_rfl) (by kernel_rfl)
      (OpenSpec.preRow_of_cond 8 hx (by kernel_rfl) (fun k hk => by cases hk) (by kernel_rfl) (laid_met os))) ?_
  intro W base args ds gs before hval hW _ _ _ hL _ _
  exact contract H enc W base args ds gs before hval hW hL

theorem said : Rows.MetaWritesSaid :=
  OpenClaim.holds_of_cond 4 Tryd.f4 rfl rfl rfl rfl rfl rfl rfl ⟨rfl, rfl, rfl, rfl, rfl⟩ rfl rfl rfl rfl rfl (by kernel_rfl) Tryd.func4 (by kernel_rfl)
    (of_decide_eq_true (by kernel_rfl)) (by unfold Func.isWrapper; first | (rw [if_pos (by decide +kernel)]; kernel_rfl) | (rw [if_neg (by decide +kernel)]; exact ⟨rfl, rfl⟩))
    (fun os started H enc _ F => by rw [OpenClaim.pre_eq_preRow]; exact lifted os started H enc F)

theorem plain (f : FuncId) (fn : Func) (hf : Tryd.pinned.checked.prog.funcNamed "catchment/catchmentlaw14.MetaWrites" = some f) (hfn : Tryd.pinned.checked.prog.funcs[f]? = some fn) :
    false = Tryd.pinned.checked.prog.looks [] ∧ ∀ (j : Nat) t, fn.params[j]? = some t → Tryd.pinned.checked.prog.wantsStandIn t = false := by
  obtain rfl : f = 4 := Option.some.inj ((show Tryd.prog.funcNamed "catchment/catchmentlaw14.MetaWrites" = some 4 by kernel_rfl).symm.trans hf) |>.symm
  obtain rfl : fn = Tryd.f4 := (Option.some.inj (Tryd.func4.symm.trans hfn)).symm
  refine ⟨by kernel_rfl, fun j t ht => ?_⟩
  rw [Tryd.params4] at ht
  have hm := Array.mem_of_getElem? ht
  simp only [List.mem_toArray, List.mem_cons, List.not_mem_nil, or_false] at hm
  subst hm
  · exact (show Tryd.prog.wantsStandIn 26 = false by kernel_rfl)

theorem proved : Rows.MetaWritesCardSaid :=
  Claim7.holds_tied_plain_at .later [] _ _ _ _ said (fun _ h => by cases h) (by kernel_rfl) (fun _ h => by cases h) metaWrites_row_tie rfl ⟨rfl, rfl⟩ (by kernel_rfl) rfl plain (by kernel_rfl)
#print axioms proved
end Go.Proofs.YtlccpchlclpnaaaDoor.metaWrites
