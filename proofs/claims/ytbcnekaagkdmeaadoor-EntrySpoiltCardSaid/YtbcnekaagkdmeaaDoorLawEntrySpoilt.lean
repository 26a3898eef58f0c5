/- EntrySpoilt: for every input the law returns true, and what was there is as it was; the table as the program's text lays it: the card. -/
import Derived.Test.YtbcnekaagkdmeaaDoorCards
import Derived.Test.YtbcnekaagkdmeaaDoorTie
import Derived.WalkKit
import Derived.ProofKit
import Derived.OpenShut
import Derived.Deep.DeepHandedRow
import Derived.Lib.LaidTab
import Derived.Test.YtbcnekaagkdmeaaDoorEnRg
namespace Go.Proofs.YtbcnekaagkdmeaaDoor.entrySpoilt
open Go.Proofs.YtbcnekaagkdmeaaDoor
open Go.ChangeShapes Go.WideShapes Go.ChangeAt Go.RowKit
open Go.ChangeMaps (open_string shut_string)

theorem own : ownKnob Tryd.prog.godebug = none := by kernel_rfl
theorem laidOut : laidOutB Tryd.prog = true := by kernel_rfl
theorem gTab : Tryd.prog.globalNamed "catchment/crc.half" = some 0 := by kernel_rfl
theorem gTabType : (Tryd.prog.globals[0]?).map (·.type) = some 93 := by kernel_rfl
theorem cellsT : Tryd.prog.cellsOf 93 = 16 := by kernel_rfl
theorem cellsE : Tryd.prog.cellsOf 33 = 1 := by kernel_rfl
def nums : List Int := [0, 498536548, 997073096, 651767980, 1994146192, 1802195444, 1303535960, 1342533948, 3988292384, 4027552580, 3604390888, 3412177804, 2607071920, 2262029012, 2685067896, 3183342108]
theorem nums_tab : ∀ j, j < 16 → nums.getD j 0 = ((Crc.tab j).toNat : Int) := by decide
theorem table {W : World} (h : laidMetH Tryd.prog Rows.entrySpoiltRow.laid W) : Table W := fun j hj => by
  have ht : Lib.TabIs Tryd.prog W "catchment/crc.half" .u32 nums := Lib.tabIs_of_head (rest := []) gTab gTabType Tryd.underlying93 Tryd.underlying33 cellsE cellsT h
  have := ht.cell gTab j hj
  rw [nums_tab j hj] at this
  exact this

theorem bytesV_set (l : List UInt8) (k : Nat) (y : UInt8) : bytesV (l.set k y) = (bytesV l).set k (byteV y) := by simp [bytesV, List.map_set]
theorem byte_xor (x y : UInt8) : bits BinOp.xor .u8 (x.toNat : Int) (y.toNat : Int) = ((x ^^^ y).toNat : Int) := by
  rw [u8_xor_nat _ _ x.toNat_lt y.toNat_lt, UInt8.toNat_xor]
set_option maxRecDepth 100000 in
set_option maxHeartbeats 8000000 in
theorem walk (w : World) (ht : Table w) (A0 : Option Addr) (c0 : Nat) (l0 : List El) (hr : EnR w w.heap.size A0 c0 l0) (hn : ∀ x ∈ l0, x.p.name.size ≤ 9223372036854775807) (a : Int) (a0 : -9223372036854775808 ≤ a) (a1 : a ≤ 9223372036854775807) (b : Int) (b0 : 0 ≤ b) (b1 : b ≤ 255) (k : Int) (k0 : -9223372036854775808 ≤ k) (k1 : k ≤ 9223372036854775807) :
    Calls Tryd.prog 6 #[.slice A0 l0.length c0, .int .i64 a, .int .u8 b, .int .i64 k] w (RetVal w (.bool true)) := by
  have HT := hide ht
  have hpos := ht.pos
  clear ht
  go_enter Tryd.func6, Tryd.ntmps6
  go_wp2_with fail
  refine (alive13 w HT.out).mono ?_
  rintro e w1 ⟨rfl, hb1⟩
  go_wp2_with fail
  refine (refGreat13 w1 A0 c0 l0 ((hr.below hb1).more hb1.size)).mono ?_
  rintro e w2 ⟨g, rfl, hsm, hb2⟩
  have hB2 := below_call hb1 hb1.size hb2
  clear hb1 hb2
  clear w1
  cases g with
  | true =>
    go_wp2_with fail
    go_ret
    exact ⟨rfl, hB2⟩
  | false =>
  clear hsm
  go_wp2_with fail
  refine (lawRight13 w2 A0 c0 l0 ((hr.below hB2).more hB2.size) hn _ rfl).mono ?_
  rintro e w3 ⟨hb3, oA, oc, out, rfl, hout, hO3⟩
  have hB3 := below_call hB2 hB2.size hb3
  obtain ⟨q, hq⟩ : ∃ q, out.map El.p = q := ⟨_, rfl⟩
  have hgd : GoodE q := by rw [← hq, hout]; exact rgt_good _
  have hgood := errE_good hgd
  have HG := hide hgood
  clear hout hB2 hb3
  clear w2
  go_wp2_with fail
  refine (entWriteL w3 oA oc out q hq.symm hO3 (HT.out.below hB3 hpos)).mono ?_
  rintro e w6 ⟨hb6, (⟨_, v6, rfl, hown6⟩ | ⟨her, rfl⟩)⟩
  rotate_left 1
  · exact absurd HG.out her
  obtain ⟨A6, n6, rfl⟩ := own_slice hown6
  have hr6 := rd_own hown6
  have hB6 := below_call hB3 hB3.size hb6
  have hlen := wrES_len hgood
  obtain ⟨L, hL⟩ : ∃ L, wrES q = L := ⟨_, rfl⟩
  obtain ⟨T, hT2⟩ : ∃ T, wrE q = T := ⟨_, rfl⟩
  have hopen : open_ L = some T := by rw [← hL, ← hT2]; exact open_seal _
  have hTpos : 3 ≤ T.length := by rw [← hT2]; unfold wrE; simp only [List.length_append]; have : mf1.length = 3 := rfl; omega
  have hTlen : T.length ≤ 99300 := by rw [← hT2]; exact wrE_le hgd.1 hgd.2.2
  rw [hL] at hr6 ⊢ hlen
  clear hown6 hb6 hL hT2 hO3 hB3 hq hgd hgood HG
  go_wp2_with fail
  refine (refOpen w6 _ n6 A6 L hr6 (by omega)).mono ?_
  rintro e w7 ⟨hb7, (⟨t, ho, rfl, hrt⟩ | ⟨ho, rfl⟩)⟩
  rotate_left 1
  · rw [hopen] at ho; cases ho
  obtain rfl : t = T := by rw [hopen] at ho; injection ho with ho; exact ho.symm
  have hB7 := below_call hB6 hB6.size hb7
  have hr7 := (hrt.below hb7).more hb7.size
  clear hopen ho hr6 hrt hb7 hB6 hlen
  have hlit := own_lit w7 (base := w7.heap.size) 5 1 0 #[] (Nat.le_refl _) (by decide) rfl
  have hr7a := hr7.alloc (Nat.le_refl _) (.cells #[] 5)
  have hb7a := (Below.refl w7.heap.size w7).alloc (Nat.le_refl _) (.cells #[] 5)
  go_upto_region 10 with (at_builtin; refine wpList_app _ tyBytes rfl (.tmp 31) (.tmp 32) rfl w7.heap.size _ 0 [] rfl hlit w7.heap.size _ _ n6 _ rfl hr7a (bytesV_one _) (by omega) (by simp) ?_; intro v8 w8 hown8 hg8 _; simp only [Nat.zero_add, List.nil_append] at hown8; have hb8 := below_app hb7a (Nat.le_refl _) hlit hg8 hb7a.size)
  obtain ⟨g, cap, rfl, hg1, hg2⟩ := hown8.form (by omega)
  have HBX := hide (And.intro hB7 hb8)
  clear hlit hr7a hb7a hg8 hb8 hr7 hB7
  obtain ⟨x, hx⟩ : ∃ x, decide (0 ≤ a ∧ a < (t.length : Int)) = x := ⟨_, rfl⟩
  go_cut [41] from 34 to 50 (fun v wx => v = .bool x ∧ wx = w8)
  case first =>
    by_cases h0 : 0 ≤ a
    · have t0 : decide (0 ≤ a) = true := decide_eq_true h0
      by_cases hl : a < (t.length : Int)
      · have t1 : decide (a < (t.length : Int)) = true := decide_eq_true hl
        obtain rfl : x = true := by rw [← hx]; exact decide_eq_true ⟨h0, hl⟩
        go_wp2_with fail
        go_meet
        exact ⟨rfl, rfl⟩
      · have t1 : decide (a < (t.length : Int)) = false := decide_eq_false hl
        obtain rfl : x = false := by rw [← hx]; exact decide_eq_false fun q => hl q.2
        go_wp2_with fail
        go_meet
        exact ⟨rfl, rfl⟩
    · have t0 : decide (0 ≤ a) = false := decide_eq_false h0
      obtain rfl : x = false := by rw [← hx]; exact decide_eq_false fun q => h0 q.1
      go_wp2_with fail
      go_meet
      exact ⟨rfl, rfl⟩
  case rest =>
  obtain ⟨rfl, rfl⟩ := hcut
  go_upto_if 41 with fail
  go_cut [] from 42 to 50 (fun wx => ∃ l2 : List UInt8, l2.length = t.length ∧ wx.ownsRow w7.heap.size 5 1 (.slice (some ⟨g, 0, none⟩) t.length cap) t.length (bytesV l2) ∧ Below w7.heap.size w7 wx)
  case first =>
    cases x with
    | true =>
      obtain ⟨h0, hl⟩ := of_decide_eq_true hx
      obtain ⟨j, rfl⟩ := Int.eq_ofNat_of_zero_le h0
      have hj : j < t.length := by omega
      obtain ⟨y, rfl⟩ : ∃ y : UInt8, b = (y.toNat : Int) := ⟨UInt8.ofNat b.toNat, by rw [UInt8.toNat_ofNat']; omega⟩
      have hcell := hown8.cellAt j (by omega)
      rw [bytesV_get _ j hj] at hcell
      have hfz := hown8.frozenAt j
      obtain ⟨z, hz⟩ : ∃ z, z = t[j] := ⟨_, rfl⟩
      have hcell' : wc.cell? ⟨g, j, none⟩ = some (.int .u8 (z.toNat : Int)) := by rw [hcell, hz]; rfl
      have hxy := byte_xor z y
      obtain ⟨u, hu⟩ : ∃ u, u = z ^^^ y := ⟨_, rfl⟩
      rw [← hu] at hxy
      have hown3 := (hown8.stored j (byteV u)).1
      rw [← bytesV_set] at hown3
      have HO3 := hide hown3
      clear hcell hz hu h0 hl hx hown8 hown3 a0 a1
      go_wp2_with fail
      go_meet
      exact ⟨t.set j u, by simp, HO3.out, HBX.out.2.setCell (p := ⟨g, j, none⟩) hg1 (byteV u)⟩
    | false =>
      go_wp2_with fail
      go_meet
      exact ⟨t, rfl, hown8, HBX.out.2⟩
  case rest =>
  obtain ⟨l2, hl2, hown9, hb9⟩ := hcut
  have hB9 := below_call HBX.out.1 HBX.out.1.size hb9
  have hr9 := rd_own hown9
  rw [← hl2] at hr9 hTlen ⊢
  clear hown8 hown9 hb9 HBX hx hl2
  by_cases h0 : 0 ≤ k
  · have t0 : decide (0 ≤ k) = true := decide_eq_true h0
    obtain ⟨j, rfl⟩ := Int.eq_ofNat_of_zero_le h0
    by_cases hl : j < l2.length
    · have t1 : decide ((j : Int) < (l2.length : Int)) = true := decide_eq_true (by omega)
      have hle := hr9.le
      have u1 := fun kk W => run_cut_hi (P := Tryd.prog) tyBytes (some ⟨g, 0, none⟩) l2.length cap kk (j : Int) j rfl (by omega) W
      have u2 := fun kk W => cut_hi (P := Tryd.prog) tyBytes (some ⟨g, 0, none⟩) l2.length cap kk (j : Int) j rfl (by omega) W
      have hpre : Rd wc wc.heap.size 1 (some ⟨g, 0, none⟩) j cap (bytesV (l2.take j)) := by
        have := hr9.pre (hi := j) (by omega)
        simpa [bytesV, List.map_take] using this
      clear hr9 h0 k0 k1
      go_wp2_with fail
      refine (entOpensLaw wc (HT.out.below hB9 hpos) (some ⟨g, 0, none⟩) j cap (l2.take j) hpre true).mono ?_
      rintro e w10 ⟨rfl, hb10⟩
      go_wp2_with fail
      go_ret
      exact ⟨rfl, below_call hB9 hB9.size hb10⟩
    · have t1 : decide ((j : Int) < (l2.length : Int)) = false := decide_eq_false (by omega)
      go_wp2_with fail
      refine (entOpensLaw wc (HT.out.below hB9 hpos) (some ⟨g, 0, none⟩) l2.length cap l2 hr9 true).mono ?_
      rintro e w10 ⟨rfl, hb10⟩
      go_wp2_with fail
      go_ret
      exact ⟨rfl, below_call hB9 hB9.size hb10⟩
  · have t0 : decide (0 ≤ k) = false := decide_eq_false h0
    go_wp2_with fail
    refine (entOpensLaw wc (HT.out.below hB9 hpos) (some ⟨g, 0, none⟩) l2.length cap l2 hr9 true).mono ?_
    rintro e w10 ⟨rfl, hb10⟩
    go_wp2_with fail
    go_ret
    exact ⟨rfl, below_call hB9 hB9.size hb10⟩

set_option maxRecDepth 100000 in
theorem contract (H : Type) (enc : TypeId × Value → H) (W : World) (base : Nat) (args : Array Value) (ds gs : List (DataW H)) (before : List MemPlace)
    (hval0 : ∀ (j : Nat) t v, Tryd.f6.params[j]? = some t → args[j]? = some v → Value.okWide Tryd.prog W .any base t v)
    (hW : DataW.Whole enc Tryd.prog Tryd.f6.params.toList Rows.entrySpoiltSpec.vars false W args.toList ds gs before) (hL : laidMetH Tryd.prog Rows.entrySpoiltRow.laid W) :
    Calls Tryd.prog 6 args W fun e W' => ∃ v, e = .returned v ∧ Rows.entrySpoiltSpec.post enc Tryd.prog Tryd.f6 false true false false W args v W' := by
  have hval : ∀ (j : Nat) t v, Tryd.f6.params[j]? = some t → args[j]? = some v → Value.okWide Tryd.prog W .any base t v := hval0
  have hW' := hW
  obtain ⟨p, q, hA0, hV, rfl, hfz, hnd⟩ := hW
  have hA : DataW.TrodAll enc Tryd.prog W 0 (fun _ => true) true Tryd.f6.params.toList args.toList ds p := hA0
  rw [Tryd.params6] at hA hval
  obtain ⟨v0, vs0, d0, ds0, p0, q0, hargs, rfl, rfl, h0, r0⟩ := trodAll_cons hA
  obtain ⟨v1, vs1, d1, ds1, p1, q1, rfl, rfl, rfl, h1, r1⟩ := trodAll_cons r0
  obtain ⟨v2, vs2, d2, ds2, p2, q2, rfl, rfl, rfl, h2, r2⟩ := trodAll_cons r1
  obtain ⟨v3, vs3, d3, ds3, p3, q3, rfl, rfl, rfl, h3, r3⟩ := trodAll_cons r2
  obtain ⟨rfl, rfl, rfl⟩ := trodAll_nil r3
  obtain rfl : args = #[v0, v1, v2, v3] := by cases args; simp_all
  obtain ⟨rfl, rfl⟩ := trodVars_none hV
  have k0 := h0
  have lt0 : ∀ x ∈ p0, x.block < W.heap.size := by obtain ⟨m, hm⟩ := k0; exact DataW.trod_lt m _ _ _ hm
  have k1 := h1
  have lt1 : ∀ x ∈ p1, x.block < W.heap.size := by obtain ⟨m, hm⟩ := k1; exact DataW.trod_lt m _ _ _ hm
  have k2 := h2
  have lt2 : ∀ x ∈ p2, x.block < W.heap.size := by obtain ⟨m, hm⟩ := k2; exact DataW.trod_lt m _ _ _ hm
  have k3 := h3
  have lt3 : ∀ x ∈ p3, x.block < W.heap.size := by obtain ⟨m, hm⟩ := k3; exact DataW.trod_lt m _ _ _ hm
  obtain ⟨A0, c0, l0, rfl, w0, n0⟩ := frame_entries (hval 0 22 v0 rfl rfl) h0
  obtain ⟨a1, rfl, hd1, hp1, w1⟩ := open_int Tryd.underlying3 (hval 1 3 v1 rfl rfl) h1
  obtain ⟨a2, rfl, hd2, hp2, w2⟩ := open_int Tryd.underlying5 (hval 2 5 v2 rfl rfl) h2
  obtain ⟨a3, rfl, hd3, hp3, w3⟩ := open_int Tryd.underlying3 (hval 3 3 v3 rfl rfl) h3
  clear hA0 hval0
  refine (walk W (table hL) A0 c0 l0 w0 n0 a1 (bounds_i64 w1).1 (bounds_i64 w1).2 a2 (bounds_u8 w2).1 (bounds_u8 w2).2 a3 (bounds_i64 w3).1 (bounds_i64 w3).2).mono fun e W' ⟨he, bel⟩ => ?_
  subst he
  exact ⟨_, rfl, _, _, _, [], _, [], hW', trodAll_mk1 (shut_bool Tryd.underlying4 _), (trodAll_cons_mk (Below.trod laidOut (by kernel_rfl) (of_decide_eq_true (by kernel_rfl)) k0 bel lt0) (trodAll_cons_mk (Below.trod laidOut (by kernel_rfl) (of_decide_eq_true (by kernel_rfl)) k1 bel lt1) (trodAll_cons_mk (Below.trod laidOut (by kernel_rfl) (of_decide_eq_true (by kernel_rfl)) k2 bel lt2) (trodAll_cons_mk (Below.trod laidOut (by kernel_rfl) (of_decide_eq_true (by kernel_rfl)) k3 bel lt3) trodAll_mk0)))), rfl, bel.frame _, fun h => by cases h⟩

/-- a world for the witness: the table holds what its initialiser lays -/
noncomputable def laidWorld (os : Os) : World :=
  { World.holding Tryd.prog os ⟨#[], #[], []⟩ with heap := (World.holding Tryd.prog os ⟨#[], #[], []⟩).heap.modify 0 fun
      | .cells _ t frozen => .cells (nums.map (Value.int .u32)).toArray t frozen
      | o => o }
theorem laid_met (os : Os) : laidMet Tryd.prog Rows.entrySpoiltRow.laid ((laidWorld os).forCall (fun _ _ => 0) ⟨#[], #[.slice none 0 0, .int .i64 0, .int .u8 0, .int .i64 0], []⟩).memory :=
  laidMet_of_run' 8 (by kernel_rfl) (by kernel_rfl)
theorem reads (os : Os) {H : Type} (enc : TypeId × Value → H) : ∃ places, DataW.whole enc Tryd.prog ((laidWorld os).forCall (fun _ _ => 0) ⟨#[], #[.slice none 0 0, .int .i64 0, .int .u8 0, .int .i64 0], []⟩).memory Tryd.f6.params.toList Rows.entrySpoiltSpec.vars false (#[.slice none 0 0, .int .i64 0, .int .u8 0, .int .i64 0] : Array Value).toList 8 = some ([.nil, .lit (.int .i64 0), .lit (.int .u8 0), .lit (.int .i64 0)], [], places) :=
  ⟨[], by kernel_rfl⟩

set_option maxRecDepth 100000 in
theorem lifted (os : Os) (started : os.Started) (H : Type) (enc : TypeId × Value → H) (F : Stop.Interp) :
    ReturnsInHanded {} Tryd.checked os 6 .any ((OpenSpec.ofChange Rows.entrySpoiltSpec).preRow enc Tryd.prog Tryd.f6 Rows.entrySpoiltRow.domain false Rows.entrySpoiltRow.laid) (((OpenSpec.ofChange Rows.entrySpoiltSpec).at F).post enc Tryd.prog Tryd.f6 false true false false) := by
  obtain ⟨places, hx⟩ := reads os enc
  refine returnsInHanded_of_row (C := Tryd.checked) (s := OpenSpec.ofChange Rows.entrySpoiltSpec) own started (by kernel_rfl) Tryd.func6
    (witness_row_at (enc := enc) (C := Tryd.checked) false (laidWorld os) #[.slice none 0 0, .int .i64 0, .int .u8 0, .int .i64 0] rfl (by kernel_rfl) (by kernel_rfl) (by kernel_rfl)
      (OpenSpec.preRow_of_cond 8 hx (by kernel_rfl) (fun k hk => by cases hk) (by kernel_rfl) (laid_met os))) ?_
  intro W base args ds gs before hval hW _ _ _ hL _ _
  exact contract H enc W base args ds gs before hval hW hL

set_option maxRecDepth 100000 in
theorem said : Rows.EntrySpoiltSaid :=
  OpenClaim.holds_of_cond 6 Tryd.f6 rfl rfl rfl rfl rfl rfl rfl ⟨rfl, rfl, rfl, rfl, rfl⟩ rfl rfl rfl rfl rfl (by kernel_rfl) Tryd.func6 (by kernel_rfl)
    (of_decide_eq_true (by kernel_rfl)) (by unfold Func.isWrapper; first | (rw [if_pos (by decide +kernel)]; kernel_rfl) | (rw [if_neg (by decide +kernel)]; exact ⟨rfl, rfl⟩))
    (fun os started H enc _ F => by rw [OpenClaim.pre_eq_preRow]; exact lifted os started H enc F)

set_option maxRecDepth 100000 in
theorem plain (f : FuncId) (fn : Func) (hf : Tryd.pinned.checked.prog.funcNamed "catchment/catchmentlaw13.EntrySpoilt" = some f) (hfn : Tryd.pinned.checked.prog.funcs[f]? = some fn) :
    false = Tryd.pinned.checked.prog.looks [] ∧ ∀ (j : Nat) t, fn.params[j]? = some t → Tryd.pinned.checked.prog.wantsStandIn t = false := by
  obtain rfl : f = 6 := Option.some.inj ((show Tryd.prog.funcNamed "catchment/catchmentlaw13.EntrySpoilt" = some 6 by kernel_rfl).symm.trans hf) |>.symm
  obtain rfl : fn = Tryd.f6 := (Option.some.inj (Tryd.func6.symm.trans hfn)).symm
  refine ⟨by kernel_rfl, fun j t ht => ?_⟩
  rw [Tryd.params6] at ht
  have hm := Array.mem_of_getElem? ht
  simp only [List.mem_toArray, List.mem_cons, List.not_mem_nil, or_false] at hm
  rcases hm with rfl | rfl | rfl | rfl
  · exact (show Tryd.prog.wantsStandIn 22 = false by kernel_rfl)
  · exact (show Tryd.prog.wantsStandIn 3 = false by kernel_rfl)
  · exact (show Tryd.prog.wantsStandIn 5 = false by kernel_rfl)
  · exact (show Tryd.prog.wantsStandIn 3 = false by kernel_rfl)

theorem proved : Rows.EntrySpoiltCardSaid :=
  Claim7.holds_tied_plain_at .later [] _ _ _ _ said (fun _ h => by cases h) (by kernel_rfl) (fun _ h => by cases h) entrySpoilt_row_tie rfl ⟨rfl, rfl⟩ (by kernel_rfl) rfl plain (by kernel_rfl)
#print axioms proved
end Go.Proofs.YtbcnekaagkdmeaaDoor.entrySpoilt
