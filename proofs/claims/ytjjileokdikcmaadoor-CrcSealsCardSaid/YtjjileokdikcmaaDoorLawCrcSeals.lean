/- CrcSeals: for every input the law returns true, and what was there is as it was; the table as the program's text lays it: the card. -/
import Derived.Test.YtjjileokdikcmaaDoorCards
import Derived.Test.YtjjileokdikcmaaDoorTie
import Derived.Test.YtjjileokdikcmaaDoorFrame
import Derived.WalkKit
import Derived.ProofKit
import Derived.OpenShut
import Derived.Deep.DeepHandedRow
import Derived.Lib.LaidTab
import Derived.Test.YtjjileokdikcmaaDoorCrcA
namespace Go.Proofs.YtjjileokdikcmaaDoor.crcSeals
open Go.Proofs.YtjjileokdikcmaaDoor
open Go.ChangeShapes Go.WideShapes Go.ChangeAt Go.RowKit
open Go.ChangeMaps (open_string shut_string)

theorem own : ownKnob Tryd.prog.godebug = none := by kernel_rfl
theorem laidOut : laidOutB Tryd.prog = true := by kernel_rfl
theorem gTab : Tryd.prog.globalNamed "catchment/crc.half" = some 0 := by kernel_rfl
theorem gTabType : (Tryd.prog.globals[0]?).map (·.type) = some 35 := by kernel_rfl
theorem cellsT : Tryd.prog.cellsOf 35 = 16 := by kernel_rfl
theorem cellsE : Tryd.prog.cellsOf 22 = 1 := by kernel_rfl
def nums : List Int := [0, 498536548, 997073096, 651767980, 1994146192, 1802195444, 1303535960, 1342533948, 3988292384, 4027552580, 3604390888, 3412177804, 2607071920, 2262029012, 2685067896, 3183342108]
theorem nums_tab : ∀ j, j < 16 → nums.getD j 0 = ((Crc.tab j).toNat : Int) := by decide
theorem table {W : World} (h : laidMetH Tryd.prog Rows.crcSealsRow.laid W) : Table W := fun j hj => by
  have ht : Lib.TabIs Tryd.prog W "catchment/crc.half" .u32 nums := Lib.tabIs_of_head (rest := []) gTab gTabType Tryd.underlying35 Tryd.underlying22 cellsE cellsT h
  have := ht.cell gTab j hj
  rw [nums_tab j hj] at this
  exact this

theorem retOpen_one {w w' : World} {l : List UInt8} {e : Ending} (h : RetOpen w l e w') :
    Below w.heap.size w w' ∧ ∃ A c, e = .returned (.tuple #[.slice A ((open_ l).getD []).length c, .bool (open_ l).isSome]) ∧ Rd w' w'.heap.size 1 A ((open_ l).getD []).length c (bytesV ((open_ l).getD [])) := by
  rcases h with ⟨t, v, h1, rfl, hown, hb⟩ | ⟨h1, rfl, hb⟩
  · obtain ⟨A, c, rfl, hr⟩ := Rd.of_own hown
    exact ⟨hb, A, c, by rw [h1]; rfl, by rw [h1]; exact hr⟩
  · exact ⟨hb, none, 0, by rw [h1]; rfl, by rw [h1]; exact Rd.nil _ _ _⟩
set_option maxRecDepth 100000 in
set_option maxHeartbeats 1000000 in
theorem walk (w : World) (ht : Table w) (A : Option Addr) (n c : Nat) (l : List UInt8) (hr : Rd w w.heap.size 1 A n c (bytesV l)) :
    Calls Tryd.prog 5 #[.slice A n c] w (RetVal w (.bool true)) := by
  obtain rfl : n = l.length := by have := hr.len; rw [bytesV_length] at this; omega
  have HT := hide ht
  have hpos := ht.pos
  clear ht
  by_cases h1 : l.length ≤ 20000
  · have t1 : decide ((20000 : Int) < (l.length : Int)) = false := by simp; omega
    go_enter Tryd.func5, Tryd.ntmps5
    go_wp2_with fail
    refine (aliveCrc _ HT.out).mono ?_
    rintro e w1 ⟨rfl, hb1⟩
    have hr1 := hr.below hb1
    go_wp2_with fail
    refine (crcSeal w1 _ c A l (hr1.more hb1.size) (HT.out.below hb1 hpos) (by omega)).mono ?_
    rintro e w2 ⟨v2, rfl, hown2, hb2⟩
    have hb2' := below_call hb1 hb1.size hb2
    have hr2 := hr.below hb2'
    obtain ⟨A2, c2, rfl, k2⟩ := Rd.of_own hown2
    have hsl := seal_length l
    have hsl2 : (seal_ l).length ≤ 1000000 := by omega
    clear hown2 hb2 hb1 hr1 hsl
    go_wp2_with fail
    refine (crcOpen w2 _ c2 A2 _ k2 (HT.out.below hb2' hpos) hsl2).mono ?_
    intro e w3 h3
    obtain ⟨hb3, A3, c3, rfl, k3⟩ := retOpen_one h3
    have hb3' := below_call hb2' hb2'.size hb3
    rw [open_seal] at k3 ⊢
    simp only [Option.getD_some, Option.isSome_some] at k3 ⊢
    have hr3 := hr.below hb3'
    have k2 := (k2.below hb3).more hb3.size
    clear h3 hr2 hb2' hsl2
    go_wp2_with fail
    refine (crcOpen w3 _ c A l (hr3.more hb3'.size) (HT.out.below hb3' hpos) (by omega)).mono ?_
    intro e w4 h4
    obtain ⟨hb4, A4, c4, rfl, k4⟩ := retOpen_one h4
    have hb4' := below_call hb3' hb3'.size hb4
    have hr4 := hr.below hb4'
    have k2 := (k2.below hb4).more hb4.size
    have k3 := (k3.below hb4).more hb4.size
    clear h4 hr3 hb3 hb3'
    go_wp2_with fail
    refine (refOpen w4 _ c A l (hr4.more hb4'.size) (by omega)).mono ?_
    rintro e w5 ⟨hb5, h5⟩
    obtain ⟨A5, c5, rfl, k5⟩ : ∃ A5 c5, e = .returned (.tuple #[.slice A5 ((open_ l).getD []).length c5, .bool (open_ l).isSome]) ∧ Rd w5 w5.heap.size 1 A5 ((open_ l).getD []).length c5 (bytesV ((open_ l).getD [])) := by
      rcases h5 with ⟨t, q1, rfl, q3⟩ | ⟨q1, rfl⟩
      · exact ⟨A, c, by rw [q1]; rfl, by rw [q1]; exact (q3.below hb5).more hb5.size⟩
      · exact ⟨none, 0, by rw [q1]; rfl, by rw [q1]; exact Rd.nil _ _ _⟩
    have k2 := (k2.below hb5).more hb5.size
    have k3 := (k3.below hb5).more hb5.size
    have k4 := (k4.below hb5).more hb5.size
    have hb5 := below_call hb4' hb4'.size hb5
    have hr5 := (hr.below hb5).more hb5.size
    clear h5 hr4 hb4 hb4' hr
    generalize (open_ l).getD [] = tt at *
    generalize (open_ l).isSome = ok at *
    go_wp2_with fail
    refine wp_region_abs ext_grow (by kernel_rfl) (by kernel_rfl) ?_
    simp only [List.map_cons, List.map_nil]
    refine wpA_value ext_grow ?_ (fun _ _ h => by cases h) rfl rfl ?_ ?_
    rotate_left 1
    · intro w' hw' C hC
      go_simp
      try go_bits
      exact hC
    simp only [putS, List.set_cons_succ, List.set_cons_zero]
    refine wpA_value ext_grow ?_ (fun _ _ h => by cases h) rfl rfl ?_ ?_
    rotate_left 1
    · intro w' hw' C hC
      have hcv := run_str (P := Tryd.prog) w' Tryd.underlying23 Tryd.underlying5 Tryd.underlying9 (k2.below (below_of_drew hw'))
      go_simp
      try go_bits
      exact hC
    simp only [putS, List.set_cons_succ, List.set_cons_zero]
    refine wpA_value ext_grow ?_ (fun _ _ h => by cases h) rfl rfl ?_ ?_
    rotate_left 1
    · intro w' hw' C hC
      go_simp
      try go_bits
      exact hC
    simp only [putS, List.set_cons_succ, List.set_cons_zero]
    refine wpA_known (Slot.has (BytesR (seal_ l))) (fun _ _ h => by cases h) rfl rfl (mono_bytes _) (fun w' hw' => ?_) ?_
    · go_simp
      exact ⟨Below.refl _ _, (refSeal _ w5.heap.size _ c A l (hr5.below (below_of_drew hw')) (below_of_drew hw').size (by omega)).mono fun e w'' h => by obtain ⟨v, h1, h2, h3⟩ := h; exact bytes_ret h1 h2 h3⟩
    simp only [putS, List.set_cons_succ, List.set_cons_zero]
    refine wpA_str 35 (_) Tryd.underlying23 Tryd.underlying5 Tryd.underlying9 rfl rfl (by simp) rfl rfl (fun _ => rfl) ?_
    simp only [putS, List.set_cons_succ, List.set_cons_zero]
    refine wpA_value ext_grow ?_ (fun _ _ h => by cases h) rfl rfl ?_ ?_
    rotate_left 1
    · intro w' hw' C hC
      go_simp
      try go_bits
      exact hC
    simp only [putS, List.set_cons_succ, List.set_cons_zero]
    refine wpA_value ext_grow ?_ (fun _ _ h => by cases h) rfl rfl ?_ ?_
    rotate_left 1
    · intro w' hw' C hC
      go_simp
      try go_bits
      exact hC
    simp only [putS, List.set_cons_succ, List.set_cons_zero]
    refine wpA_value ext_grow ?_ (fun _ _ h => by cases h) rfl rfl ?_ ?_
    rotate_left 1
    · intro w' hw' C hC
      go_simp
      try go_bits
      exact hC
    simp only [putS, List.set_cons_succ, List.set_cons_zero]
    refine wpA_value ext_grow ?_ (fun _ _ h => by cases h) rfl rfl ?_ ?_
    rotate_left 1
    · intro w' hw' C hC
      go_simp
      try go_bits
      exact hC
    simp only [putS, List.set_cons_succ, List.set_cons_zero]
    refine wpA_value ext_grow ?_ (fun _ _ h => by cases h) rfl rfl ?_ ?_
    rotate_left 1
    · intro w' hw' C hC
      go_simp
      try go_bits
      exact hC
    simp only [putS, List.set_cons_succ, List.set_cons_zero]
    refine wpA_value ext_grow ?_ (fun _ _ h => by cases h) rfl rfl ?_ ?_
    rotate_left 1
    · intro w' hw' C hC
      go_simp
      try go_bits
      exact hC
    simp only [putS, List.set_cons_succ, List.set_cons_zero]
    refine wpA_value ext_grow ?_ (fun _ _ h => by cases h) rfl rfl ?_ ?_
    rotate_left 1
    · intro w' hw' C hC
      have hcv := run_str (P := Tryd.prog) w' Tryd.underlying23 Tryd.underlying5 Tryd.underlying9 (k3.below (below_of_drew hw'))
      go_simp
      try go_bits
      exact hC
    simp only [putS, List.set_cons_succ, List.set_cons_zero]
    refine wpA_value ext_grow ?_ (fun _ _ h => by cases h) rfl rfl ?_ ?_
    rotate_left 1
    · intro w' hw' C hC
      go_simp
      try go_bits
      exact hC
    simp only [putS, List.set_cons_succ, List.set_cons_zero]
    refine wpA_value ext_grow ?_ (fun _ _ h => by cases h) rfl rfl ?_ ?_
    rotate_left 1
    · intro w' hw' C hC
      have hcv := run_str (P := Tryd.prog) w' Tryd.underlying23 Tryd.underlying5 Tryd.underlying9 (hr5.below (below_of_drew hw'))
      go_simp
      try go_bits
      exact hC
    simp only [putS, List.set_cons_succ, List.set_cons_zero]
    refine wpA_value ext_grow ?_ (fun _ _ h => by cases h) rfl rfl ?_ ?_
    rotate_left 1
    · intro w' hw' C hC
      go_simp
      try go_bits
      exact hC
    simp only [putS, List.set_cons_succ, List.set_cons_zero]
    refine wpA_value ext_grow ?_ (fun _ _ h => by cases h) rfl rfl ?_ ?_
    rotate_left 1
    · intro w' hw' C hC
      go_simp
      try go_bits
      exact hC
    simp only [putS, List.set_cons_succ, List.set_cons_zero]
    refine wpA_value ext_grow ?_ (fun _ _ h => by cases h) rfl rfl ?_ ?_
    rotate_left 1
    · intro w' hw' C hC
      go_simp
      try go_bits
      exact hC
    simp only [putS, List.set_cons_succ, List.set_cons_zero]
    refine wpA_value ext_grow ?_ (fun _ _ h => by cases h) rfl rfl ?_ ?_
    rotate_left 1
    · intro w' hw' C hC
      go_simp
      try go_bits
      exact hC
    simp only [putS, List.set_cons_succ, List.set_cons_zero]
    refine wpA_value ext_grow ?_ (fun _ _ h => by cases h) rfl rfl ?_ ?_
    rotate_left 1
    · intro w' hw' C hC
      go_simp
      try go_bits
      exact hC
    simp only [putS, List.set_cons_succ, List.set_cons_zero]
    refine wpA_value ext_grow ?_ (fun _ _ h => by cases h) rfl rfl ?_ ?_
    rotate_left 1
    · intro w' hw' C hC
      go_simp
      try go_bits
      exact hC
    simp only [putS, List.set_cons_succ, List.set_cons_zero]
    refine wpA_value ext_grow ?_ (fun _ _ h => by cases h) rfl rfl ?_ ?_
    rotate_left 1
    · intro w' hw' C hC
      go_simp
      try go_bits
      exact hC
    simp only [putS, List.set_cons_succ, List.set_cons_zero]
    refine wpA_value ext_grow ?_ (fun _ _ h => by cases h) rfl rfl ?_ ?_
    rotate_left 1
    · intro w' hw' C hC
      go_simp
      try go_bits
      exact hC
    simp only [putS, List.set_cons_succ, List.set_cons_zero]
    refine wpA_value ext_grow ?_ (fun _ _ h => by cases h) rfl rfl ?_ ?_
    rotate_left 1
    · intro w' hw' C hC
      go_simp
      try go_bits
      exact hC
    simp only [putS, List.set_cons_succ, List.set_cons_zero]
    refine wpA_value ext_grow ?_ (fun _ _ h => by cases h) rfl rfl ?_ ?_
    rotate_left 1
    · intro w' hw' C hC
      have hcv := run_str (P := Tryd.prog) w' Tryd.underlying23 Tryd.underlying5 Tryd.underlying9 (k4.below (below_of_drew hw'))
      go_simp
      try go_bits
      exact hC
    simp only [putS, List.set_cons_succ, List.set_cons_zero]
    refine wpA_value ext_grow ?_ (fun _ _ h => by cases h) rfl rfl ?_ ?_
    rotate_left 1
    · intro w' hw' C hC
      go_simp
      try go_bits
      exact hC
    simp only [putS, List.set_cons_succ, List.set_cons_zero]
    refine wpA_value ext_grow ?_ (fun _ _ h => by cases h) rfl rfl ?_ ?_
    rotate_left 1
    · intro w' hw' C hC
      have hcv := run_str (P := Tryd.prog) w' Tryd.underlying23 Tryd.underlying5 Tryd.underlying9 (k5.below (below_of_drew hw'))
      go_simp
      try go_bits
      exact hC
    simp only [putS, List.set_cons_succ, List.set_cons_zero]
    refine wpA_value ext_grow ?_ (fun _ _ h => by cases h) rfl rfl ?_ ?_
    rotate_left 1
    · intro w' hw' C hC
      go_simp
      try go_bits
      exact hC
    simp only [putS, List.set_cons_succ, List.set_cons_zero]
    refine wpA_value ext_grow ?_ (fun _ _ h => by cases h) rfl rfl ?_ ?_
    rotate_left 1
    · intro w' hw' C hC
      go_simp
      try go_bits
      exact hC
    simp only [putS, List.set_cons_succ, List.set_cons_zero]
    refine wpA_value ext_grow ?_ (fun _ _ h => by cases h) rfl rfl ?_ ?_
    rotate_left 1
    · intro w' hw' C hC
      go_simp
      try go_bits
      exact hC
    simp only [putS, List.set_cons_succ, List.set_cons_zero]
    intro w' hw'
    simp only [openS]
    intro vv hvv
    go_wp2_with fail
    go_ret
    exact ⟨rfl, hb5.trans ((below_of_drew hw').mono hb5.size)⟩
  · have t1 : decide ((20000 : Int) < (l.length : Int)) = true := by simp; omega
    clear h1
    go_enter Tryd.func5, Tryd.ntmps5
    go_wp2_with fail
    refine (aliveCrc _ HT.out).mono ?_
    rintro e w1 ⟨rfl, hb1⟩
    go_wp2_with fail
    go_ret
    exact ⟨rfl, hb1⟩

theorem contract (H : Type) (enc : TypeId × Value → H) (W : World) (base : Nat) (args : Array Value) (ds gs : List (DataW H)) (before : List MemPlace)
    (hval0 : ∀ (j : Nat) t v, Tryd.f5.params[j]? = some t → args[j]? = some v → Value.okWide Tryd.prog W .any base t v)
    (hW : DataW.Whole enc Tryd.prog Tryd.f5.params.toList Rows.crcSealsSpec.vars false W args.toList ds gs before) (hL : laidMetH Tryd.prog Rows.crcSealsRow.laid W) :
    Calls Tryd.prog 5 args W fun e W' => ∃ v, e = .returned v ∧ Rows.crcSealsSpec.post enc Tryd.prog Tryd.f5 false true false false W args v W' := by
  have hval : ∀ (j : Nat) t v, Tryd.f5.params[j]? = some t → args[j]? = some v → Value.okWide Tryd.prog W .any base t v := hval0
  have hW' := hW
  obtain ⟨p, q, hA0, hV, rfl, hfz, hnd⟩ := hW
  have hA : DataW.TrodAll enc Tryd.prog W 0 (fun _ => true) true Tryd.f5.params.toList args.toList ds p := hA0
  rw [Tryd.params5] at hA hval
  obtain ⟨v0, vs0, d0, ds0, p0, q0, hargs, rfl, rfl, h0, r0⟩ := trodAll_cons hA
  obtain ⟨rfl, rfl, rfl⟩ := trodAll_nil r0
  obtain rfl : args = #[v0] := by cases args; simp_all
  obtain ⟨rfl, rfl⟩ := trodVars_none hV
  have k0 := h0
  have lt0 : ∀ x ∈ p0, x.block < W.heap.size := by obtain ⟨m, hm⟩ := k0; exact DataW.trod_lt m _ _ _ hm
  obtain ⟨A0, n0, c0, l0, rfl, w0, hr0⟩ := frame_bytes Tryd.underlying23 Tryd.underlying5 (by kernel_rfl) (hval 0 23 v0 rfl rfl) h0
  clear hA0 hval0
  refine (walk W (table hL) A0 n0 c0 l0 w0).mono fun e W' ⟨he, bel⟩ => ?_
  subst he
  exact ⟨_, rfl, _, _, _, [], _, [], hW', trodAll_mk1 (shut_bool Tryd.underlying4 _), (trodAll_cons_mk (Below.trod laidOut (by kernel_rfl) (of_decide_eq_true (by kernel_rfl)) k0 bel lt0) trodAll_mk0), rfl, bel.frame _, fun h => by cases h⟩

/-- a world for the witness: the table holds what its initialiser lays -/
noncomputable def laidWorld (os : Os) : World :=
  { World.holding Tryd.prog os ⟨#[], #[], []⟩ with heap := (World.holding Tryd.prog os ⟨#[], #[], []⟩).heap.modify 0 fun
      | .cells _ t frozen => .cells (nums.map (Value.int .u32)).toArray t frozen
      | o => o }
theorem laid_met (os : Os) : laidMet Tryd.prog Rows.crcSealsRow.laid ((laidWorld os).forCall (fun _ _ => 0) ⟨#[], #[.slice none 0 0], []⟩).memory :=
  laidMet_of_run' 8 (by kernel_rfl) (by kernel_rfl)
theorem reads (os : Os) {H : Type} (enc : TypeId × Value → H) : ∃ places, DataW.whole enc Tryd.prog ((laidWorld os).forCall (fun _ _ => 0) ⟨#[], #[.slice none 0 0], []⟩).memory Tryd.f5.params.toList Rows.crcSealsSpec.vars false (#[.slice none 0 0] : Array Value).toList 8 = some ([.nil], [], places) :=
  ⟨[], by kernel_rfl⟩

set_option maxRecDepth 100000 in
theorem lifted (os : Os) (started : os.Started) (H : Type) (enc : TypeId × Value → H) (F : Stop.Interp) :
    ReturnsInHanded {} Tryd.checked os 5 .any ((OpenSpec.ofChange Rows.crcSealsSpec).preRow enc Tryd.prog Tryd.f5 Rows.crcSealsRow.domain false Rows.crcSealsRow.laid) (((OpenSpec.ofChange Rows.crcSealsSpec).at F).post enc Tryd.prog Tryd.f5 false true false false) := by
  obtain ⟨places, hx⟩ := reads os enc
  refine returnsInHanded_of_row (C := Tryd.checked) (s := OpenSpec.ofChange Rows.crcSealsSpec) own started (by kernel_rfl) Tryd.func5
    (witness_row_at (enc := enc) (C := Tryd.checked) false (laidWorld os) #[.slice none 0 0] rfl (by kernel_rfl) (by kernel_rfl) (by kernel_rfl)
      (OpenSpec.preRow_of_cond 8 hx (by kernel_rfl) (fun k hk => by cases hk) (by kernel_rfl) (laid_met os))) ?_
  intro W base args ds gs before hval hW _ _ _ hL _ _
  exact contract H enc W base args ds gs before hval hW hL

theorem said : Rows.CrcSealsSaid :=
  OpenClaim.holds_of_cond 5 Tryd.f5 rfl rfl rfl rfl rfl rfl rfl ⟨rfl, rfl, rfl, rfl, rfl⟩ rfl rfl rfl rfl rfl (by kernel_rfl) Tryd.func5 (by kernel_rfl)
    (of_decide_eq_true (by kernel_rfl)) (by unfold Func.isWrapper; first | (rw [if_pos (by decide +kernel)]; kernel_rfl) | (rw [if_neg (by decide +kernel)]; exact ⟨rfl, rfl⟩))
    (fun os started H enc _ F => by rw [OpenClaim.pre_eq_preRow]; exact lifted os started H enc F)

theorem plain (f : FuncId) (fn : Func) (hf : Tryd.pinned.checked.prog.funcNamed "catchment/catchmentlaw07.CrcSeals" = some f) (hfn : Tryd.pinned.checked.prog.funcs[f]? = some fn) :
    false = Tryd.pinned.checked.prog.looks [] ∧ ∀ (j : Nat) t, fn.params[j]? = some t → Tryd.pinned.checked.prog.wantsStandIn t = false := by
  obtain rfl : f = 5 := Option.some.inj ((show Tryd.prog.funcNamed "catchment/catchmentlaw07.CrcSeals" = some 5 by kernel_rfl).symm.trans hf) |>.symm
  obtain rfl : fn = Tryd.f5 := (Option.some.inj (Tryd.func5.symm.trans hfn)).symm
  refine ⟨by kernel_rfl, fun j t ht => ?_⟩
  rw [Tryd.params5] at ht
  have hm := Array.mem_of_getElem? ht
  simp only [List.mem_toArray, List.mem_cons, List.not_mem_nil, or_false] at hm
  subst hm
  · exact (show Tryd.prog.wantsStandIn 23 = false by kernel_rfl)

theorem proved : Rows.CrcSealsCardSaid :=
  Claim7.holds_tied_plain_at .later [] _ _ _ _ said (fun _ h => by cases h) (by kernel_rfl) (fun _ h => by cases h) crcSeals_row_tie rfl ⟨rfl, rfl⟩ (by kernel_rfl) rfl plain (by kernel_rfl)
#print axioms proved
end Go.Proofs.YtjjileokdikcmaaDoor.crcSeals
