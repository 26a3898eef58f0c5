/- EntryWrites: for every input the law returns true, and what was there is as it was; the table as the program's text lays it: the card. -/
import Derived.Test.YtbcnekaagkdmeaaDoorCards
import Derived.Test.YtbcnekaagkdmeaaDoorTie
import Derived.WalkKit
import Derived.ProofKit
import Derived.OpenShut
import Derived.Deep.DeepHandedRow
import Derived.Lib.LaidTab
import Derived.Test.YtbcnekaagkdmeaaDoorFrameE
namespace Go.Proofs.YtbcnekaagkdmeaaDoor.entryWrites
open Go.Proofs.YtbcnekaagkdmeaaDoor
open Go.ChangeShapes Go.WideShapes Go.ChangeAt Go.RowKit
open Go.ChangeMaps (open_string shut_string)

theorem own : ownKnob Tryd.prog.godebug = none := by kernel_rfl
theorem laidOut : laidOutB Tryd.prog = true := by kernel_rfl
theorem gTab : Tryd.prog.globalNamed "catchment/crc.half" = some 0 := by kernel_rfl
theorem gTabType : (Tryd.prog.globals[0]?).map (·.type) = some 93 := by kernel_rfl
theorem cellsT : Tryd.prog.cellsOf 93 = 16 := by kernel_rfl
theorem cellsE : Tryd.prog.cellsOf 33 = 1 := by kernel_rfl
def nums : List Int := [0, 498536548, 997073096, 651767980, 1994146192, 1802195444, 1303535960, 1342533948, 3988292384, 4027552580, 3604390888, 3412177804, 2607071920, 2262029012, 2685067896, 3183342108]
theorem nums_tab : ∀ j, j < 16 → nums.getD j 0 = ((Crc.tab j).toNat : Int) := by decide
theorem table {W : World} (h : laidMetH Tryd.prog Rows.entryWritesRow.laid W) : Table W := fun j hj => by
  have ht : Lib.TabIs Tryd.prog W "catchment/crc.half" .u32 nums := Lib.tabIs_of_head (rest := []) gTab gTabType Tryd.underlying93 Tryd.underlying33 cellsE cellsT h
  have := ht.cell gTab j hj
  rw [nums_tab j hj] at this
  exact this

theorem wrEndE_res {w w' : World} {l : List En} {e : Ending} (h : WrEndE w l e w') : ∃ A c, e = .returned (.tuple #[.slice A (if errE l = 0 then wrES l else []).length c, .int .i64 (errE l : Int)]) ∧
    Rd w' w'.heap.size 1 A (if errE l = 0 then wrES l else []).length c (bytesV (if errE l = 0 then wrES l else [])) ∧ Below w.heap.size w w' := by
  rcases h with ⟨hb, (⟨he, v, rfl, ho⟩ | ⟨he, rfl⟩)⟩
  · obtain ⟨A, c, rfl, hrd⟩ := Rd.of_own ho
    simp only [if_pos he]
    exact ⟨A, c, by rw [he]; rfl, hrd, hb⟩
  · simp only [if_neg he]
    exact ⟨none, 0, rfl, Rd.nil _ _ _, hb⟩
set_option maxRecDepth 100000 in
set_option maxHeartbeats 4000000 in
theorem walk (w : World) (ht : Table w) (A : Option Addr) (c : Nat) (l : List El) (hr : EnR w w.heap.size A c l) (hn : ∀ x ∈ l, x.p.name.size ≤ 9223372036854775807) :
    Calls Tryd.prog 3 #[.slice A l.length c] w (RetVal w (.bool true)) := by
  have HT := hide ht
  have hpos := ht.pos
  clear ht
  go_enter Tryd.func3, Tryd.ntmps3
  go_wp2_with fail
  refine (alive13 w HT.out).mono ?_
  rintro e w1 ⟨rfl, hb1⟩
  go_wp2_with fail
  refine (refGreat13 w1 A c l ((hr.below hb1).more hb1.size)).mono ?_
  rintro e w2 ⟨g, rfl, hsm, hb2⟩
  have hB2 := below_call hb1 hb1.size hb2
  clear hb1 hb2
  clear w1
  cases g with
  | true =>
    go_wp2_with fail
    go_ret
    exact ⟨rfl, hB2⟩
  | false =>
    have HSM := hide (hsm rfl)
    clear hsm
    go_wp2_with fail
    refine (entWrite w2 A c l ((hr.below hB2).more hB2.size) (HT.out.below hB2 hpos)).mono ?_
    intro e w3 he
    obtain ⟨A3, c3, rfl, hr3, hb3⟩ := wrEndE_res he
    have hB3 := below_call hB2 hB2.size hb3
    obtain ⟨bs, hbs⟩ : ∃ bs, (if errE (l.map El.p) = 0 then wrES (l.map El.p) else []) = bs := ⟨_, rfl⟩
    obtain ⟨er, her⟩ : ∃ er, errE (l.map El.p) = er := ⟨_, rfl⟩
    have HBS := hide (And.intro hbs her)
    rw [hbs] at hr3 ⊢
    rw [her]
    clear he hb3 hB2 hbs her
    go_wp2_with fail
    refine (refWrite13 w3 A c l ((hr.below hB3).more hB3.size) hn).mono ?_
    intro e w4 he
    obtain ⟨A4, c4, rfl, hr4, hb4⟩ := wrEndE_res he
    have hB4 := below_call hB3 hB3.size hb4
    have hr34 := (hr3.below hb4).more hb4.size
    rw [HBS.out.1] at hr4 ⊢
    rw [HBS.out.2]
    clear he hb4 hB3 hr3
    clear w3
    clear w2
    have hl200 := HSM.out.1
    go_wp2_with fail
    go_loopw [7] (fun iv wr => ∃ k : Nat, iv = .int .i64 (k : Int) ∧ k ≤ l.length ∧ Below w4.heap.size w4 wr) (fun iv _ => l.length - (intOf iv).toNat)
    case atStart => exact ⟨0, rfl, Nat.zero_le _, Below.refl _ _⟩
    case round =>
      obtain ⟨k, rfl, hk, hbr4⟩ := hrel
      have hbr := hB4.trans (hbr4.mono hB4.size)
      by_cases hlt : k < l.length
      · obtain ⟨gb, off, rfl, hgb, hc⟩ := hr.row.elA hlt
        have hin := hr.ins (l.getD k default) (getD_mem hlt)
        have hxn := hn (l.getD k default) (getD_mem hlt)
        obtain ⟨x, hx⟩ : ∃ x, l.getD k default = x := ⟨_, rfl⟩
        obtain ⟨a0, a1, a2, a3, a4, a5⟩ := hc x hx
        rw [hx] at hin hxn
        have hbd : Below w4.heap.size w4 wr.drew := hbr4.drew
        have hw4 := hB4.size
        clear hc hx hbr
        go_upto_region 10 with fail
        refine wp_region_held_drew (S := fun w' => Below w4.heap.size w4 w') (by kernel_rfl) ?_ (fun hHeld => ?_)
        · exact hbd
        refine wpAnyH_take (i := 0) (v := ?_) rfl (by kernel_rfl) (by kernel_rfl) (by kernel_rfl) (fun _ _ _ h => h) (Or.inl ⟨by rfl, ?_⟩) hHeld ?_
        rotate_left 1
        · (intro w' hSw; go_simp; first | done | with_reducible rfl)
        (try simp only [Act.put, List.setIfInBounds_toArray, List.set_cons_zero, List.set_cons_succ])
        refine wpAnyH_take (i := 1) (v := ?_) rfl (by kernel_rfl) (by kernel_rfl) (by kernel_rfl) (fun _ _ _ h => h) (Or.inl ⟨by rfl, ?_⟩) hHeld ?_
        rotate_left 1
        · (intro w' hSw; go_simp; first | done | with_reducible rfl)
        (try simp only [Act.put, List.setIfInBounds_toArray, List.set_cons_zero, List.set_cons_succ])
        refine wpAnyH_take (i := 2) (v := ?_) rfl (by kernel_rfl) (by kernel_rfl) (by kernel_rfl) (fun _ _ _ h => h) (Or.inl ⟨by rfl, ?_⟩) hHeld ?_
        rotate_left 1
        · (intro w' hSw; go_simp; first | done | with_reducible rfl)
        (try simp only [Act.put, List.setIfInBounds_toArray, List.set_cons_zero, List.set_cons_succ])
        refine wpAnyH_take (i := 3) (v := ?_) rfl (by kernel_rfl) (by kernel_rfl) (by kernel_rfl) (fun _ _ _ h => h) (Or.inl ⟨by rfl, ?_⟩) hHeld ?_
        rotate_left 1
        · (intro w' hSw; have q0 := ((hB4.trans (hSw.mono hB4.size)).cell (p := ⟨gb, off + k * 6, none⟩) hgb).trans a0; have q1 := ((hB4.trans (hSw.mono hB4.size)).cell (p := ⟨gb, off + k * 6 + 1, none⟩) hgb).trans a1; have q2 := ((hB4.trans (hSw.mono hB4.size)).cell (p := ⟨gb, off + k * 6 + 2, none⟩) hgb).trans a2; have q3 := ((hB4.trans (hSw.mono hB4.size)).cell (p := ⟨gb, off + k * 6 + 3, none⟩) hgb).trans a3; have q4 := ((hB4.trans (hSw.mono hB4.size)).cell (p := ⟨gb, off + k * 6 + 4, none⟩) hgb).trans a4; have q5 := ((hB4.trans (hSw.mono hB4.size)).cell (p := ⟨gb, off + k * 6 + 5, none⟩) hgb).trans a5; go_simp; first | done | with_reducible rfl)
        (try simp only [Act.put, List.setIfInBounds_toArray, List.set_cons_zero, List.set_cons_succ])
        refine wpAnyH_take (i := 5) (v := ?_) rfl (by kernel_rfl) (by kernel_rfl) (by kernel_rfl) (fun _ _ _ h => h) (Or.inl ⟨by rfl, ?_⟩) hHeld ?_
        rotate_left 1
        · (intro w' hSw; go_simp; first | done | with_reducible rfl)
        (try simp only [Act.put, List.setIfInBounds_toArray, List.set_cons_zero, List.set_cons_succ])
        refine wpAnyH_take (i := 6) (v := ?_) rfl (by kernel_rfl) (by kernel_rfl) (by kernel_rfl) (fun _ _ _ h => h) (Or.inl ⟨by rfl, ?_⟩) hHeld ?_
        rotate_left 1
        · (intro w' hSw; go_simp; first | done | with_reducible rfl)
        (try simp only [Act.put, List.setIfInBounds_toArray, List.set_cons_zero, List.set_cons_succ])
        refine wpAnyH_take (i := 7) (v := ?_) rfl (by kernel_rfl) (by kernel_rfl) (by kernel_rfl) (fun _ _ _ h => h) (Or.inl ⟨by rfl, ?_⟩) hHeld ?_
        rotate_left 1
        · (intro w' hSw; go_simp; first | done | with_reducible rfl)
        (try simp only [Act.put, List.setIfInBounds_toArray, List.set_cons_zero, List.set_cons_succ])
        refine wpAnyH_take (i := 8) (v := ?_) rfl (by kernel_rfl) (by kernel_rfl) (by kernel_rfl) (fun _ _ _ h => h) (Or.inl ⟨by rfl, ?_⟩) hHeld ?_
        rotate_left 1
        · (intro w' hSw; have q0 := ((hB4.trans (hSw.mono hB4.size)).cell (p := ⟨gb, off + k * 6, none⟩) hgb).trans a0; have q1 := ((hB4.trans (hSw.mono hB4.size)).cell (p := ⟨gb, off + k * 6 + 1, none⟩) hgb).trans a1; have q2 := ((hB4.trans (hSw.mono hB4.size)).cell (p := ⟨gb, off + k * 6 + 2, none⟩) hgb).trans a2; have q3 := ((hB4.trans (hSw.mono hB4.size)).cell (p := ⟨gb, off + k * 6 + 3, none⟩) hgb).trans a3; have q4 := ((hB4.trans (hSw.mono hB4.size)).cell (p := ⟨gb, off + k * 6 + 4, none⟩) hgb).trans a4; have q5 := ((hB4.trans (hSw.mono hB4.size)).cell (p := ⟨gb, off + k * 6 + 5, none⟩) hgb).trans a5; go_simp; first | done | with_reducible rfl)
        (try simp only [Act.put, List.setIfInBounds_toArray, List.set_cons_zero, List.set_cons_succ])
        refine wpAnyH_ready (rs := [4]) (by kernel_rfl) (by simp) ?_
        refine AllReadyH.cons rfl (fun K hK => ?_) AllReadyH.nil
        go_simp
        go_at_call 12
        refine (entRight wr.drew x.p x.A x.c ((hin.below (hB4.trans (hbd.mono hw4))).more (Nat.le_trans hw4 hbd.size))).mono ?_
        rintro e wa ⟨rfl, hb⟩
        have hwa := below_call hbd hbd.size hb
        clear hb
        refine hK.out _ _ hwa (fun hHeld => ?_)
        clear hK K
        (try simp only [Act.put, List.setIfInBounds_toArray, List.set_cons_zero, List.set_cons_succ])
        refine wpAnyH_ready (rs := [9]) (by kernel_rfl) (by simp) ?_
        refine AllReadyH.cons rfl (fun K hK => ?_) AllReadyH.nil
        go_simp
        go_at_call 13
        refine (refRight13 wa x.p x.A x.c ((hin.below (hB4.trans (hwa.mono hw4))).more (Nat.le_trans hw4 hwa.size)) hxn).mono ?_
        rintro e wb ⟨rfl, hb⟩
        have hwb := below_call hwa hwa.size hb
        clear hb
        refine hK.out _ _ hwb (fun hHeld => ?_)
        clear hK K
        (try simp only [Act.put, List.setIfInBounds_toArray, List.set_cons_zero, List.set_cons_succ])
        refine wpAnyH_take (i := 10) (v := ?_) rfl (by kernel_rfl) (by kernel_rfl) (by kernel_rfl) (fun _ _ _ h => h) (Or.inl ⟨by rfl, ?_⟩) hHeld ?_
        rotate_left 1
        · (intro w' hSw; go_simp; first | done | with_reducible rfl)
        (try simp only [Act.put, List.setIfInBounds_toArray, List.set_cons_zero, List.set_cons_succ])
        refine wpAnyH_done (by kernel_rfl) ?_ _
        go_wp2_with fail
        go_roundw
        case rel => exact ⟨k + 1, by go_num, hlt, hwb⟩
        case measure => simp [intOf]; omega
      · have hrb := (hr34.below hbr4).more hbr4.size
        have hrc := (hr4.below hbr4).more hbr4.size
        have s1 := run_str (P := Tryd.prog) wr Tryd.underlying25 Tryd.underlying5 Tryd.underlying9 hrb
        have s2 := run_str (P := Tryd.prog) wr Tryd.underlying25 Tryd.underlying5 Tryd.underlying9 hrc
        clear hrb hrc
        go_wp2_with fail
        go_ret
        exact ⟨rfl, hbr⟩

set_option maxRecDepth 100000 in
theorem contract (H : Type) (enc : TypeId × Value → H) (W : World) (base : Nat) (args : Array Value) (ds gs : List (DataW H)) (before : List MemPlace)
    (hval0 : ∀ (j : Nat) t v, Tryd.f3.params[j]? = some t → args[j]? = some v → Value.okWide Tryd.prog W .any base t v)
    (hW : DataW.Whole enc Tryd.prog Tryd.f3.params.toList Rows.entryWritesSpec.vars false W args.toList ds gs before) (hL : laidMetH Tryd.prog Rows.entryWritesRow.laid W) :
    Calls Tryd.prog 3 args W fun e W' => ∃ v, e = .returned v ∧ Rows.entryWritesSpec.post enc Tryd.prog Tryd.f3 false true false false W args v W' := by
  have hval : ∀ (j : Nat) t v, Tryd.f3.params[j]? = some t → args[j]? = some v → Value.okWide Tryd.prog W .any base t v := hval0
  have hW' := hW
  obtain ⟨p, q, hA0, hV, rfl, hfz, hnd⟩ := hW
  have hA : DataW.TrodAll enc Tryd.prog W 0 (fun _ => true) true Tryd.f3.params.toList args.toList ds p := hA0
  rw [Tryd.params3] at hA hval
  obtain ⟨v0, vs0, d0, ds0, p0, q0, hargs, rfl, rfl, h0, r0⟩ := trodAll_cons hA
  obtain ⟨rfl, rfl, rfl⟩ := trodAll_nil r0
  obtain rfl : args = #[v0] := by cases args; simp_all
  obtain ⟨rfl, rfl⟩ := trodVars_none hV
  have k0 := h0
  have lt0 : ∀ x ∈ p0, x.block < W.heap.size := by obtain ⟨m, hm⟩ := k0; exact DataW.trod_lt m _ _ _ hm
  obtain ⟨A0, c0, l0, rfl, w0, n0⟩ := frame_entries (hval 0 22 v0 rfl rfl) h0
  clear hA0 hval0
  refine (walk W (table hL) A0 c0 l0 w0 n0).mono fun e W' ⟨he, bel⟩ => ?_
  subst he
  exact ⟨_, rfl, _, _, _, [], _, [], hW', trodAll_mk1 (shut_bool Tryd.underlying4 _), (trodAll_cons_mk (Below.trod laidOut (by kernel_rfl) (of_decide_eq_true (by kernel_rfl)) k0 bel lt0) trodAll_mk0), rfl, bel.frame _, fun h => by cases h⟩

/-- a world for the witness: the table holds what its initialiser lays -/
noncomputable def laidWorld (os : Os) : World :=
  { World.holding Tryd.prog os ⟨#[], #[], []⟩ with heap := (World.holding Tryd.prog os ⟨#[], #[], []⟩).heap.modify 0 fun
      | .cells _ t frozen => .cells (nums.map (Value.int .u32)).toArray t frozen
      | o => o }
theorem laid_met (os : Os) : laidMet Tryd.prog Rows.entryWritesRow.laid ((laidWorld os).forCall (fun _ _ => 0) ⟨#[], #[.slice none 0 0], []⟩).memory :=
  laidMet_of_run' 8 (by kernel_rfl) (by kernel_rfl)
theorem reads (os : Os) {H : Type} (enc : TypeId × Value → H) : ∃ places, DataW.whole enc Tryd.prog ((laidWorld os).forCall (fun _ _ => 0) ⟨#[], #[.slice none 0 0], []⟩).memory Tryd.f3.params.toList Rows.entryWritesSpec.vars false (#[.slice none 0 0] : Array Value).toList 8 = some ([.nil], [], places) :=
  ⟨[], by kernel_rfl⟩

set_option maxRecDepth 100000 in
theorem lifted (os : Os) (started : os.Started) (H : Type) (enc : TypeId × Value → H) (F : Stop.Interp) :
    ReturnsInHanded {} Tryd.checked os 3 .any ((OpenSpec.ofChange Rows.entryWritesSpec).preRow enc Tryd.prog Tryd.f3 Rows.entryWritesRow.domain false Rows.entryWritesRow.laid) (((OpenSpec.ofChange Rows.entryWritesSpec).at F).post enc Tryd.prog Tryd.f3 false true false false) := by
  obtain ⟨places, hx⟩ := reads os enc
  refine returnsInHanded_of_row (C := Tryd.checked) (s := OpenSpec.ofChange Rows.entryWritesSpec) own started (by kernel_rfl) Tryd.func3
    (witness_row_at (enc := enc) (C := Tryd.checked) false (laidWorld os) #[.slice none 0 0] rfl (by kernel_rfl) (by kernel_rfl) (by kernel_rfl)
      (OpenSpec.preRow_of_cond 8 hx (by kernel_rfl) (fun k hk => by cases hk) (by kernel_rfl) (laid_met os))) ?_
  intro W base args ds gs before hval hW _ _ _ hL _ _
  exact contract H enc W base args ds gs before hval hW hL

theorem said : Rows.EntryWritesSaid :=
  OpenClaim.holds_of_cond 3 Tryd.f3 rfl rfl rfl rfl rfl rfl rfl ⟨rfl, rfl, rfl, rfl, rfl⟩ rfl rfl rfl rfl rfl (by kernel_rfl) Tryd.func3 (by kernel_rfl)
    (of_decide_eq_true (by kernel_rfl)) (by unfold Func.isWrapper; first | (rw [if_pos (by decide +kernel)]; kernel_rfl) | (rw [if_neg (by decide +kernel)]; exact ⟨rfl, rfl⟩))
    (fun os started H enc _ F => by rw [OpenClaim.pre_eq_preRow]; exact lifted os started H enc F)

theorem plain (f : FuncId) (fn : Func) (hf : Tryd.pinned.checked.prog.funcNamed "catchment/catchmentlaw13.EntryWrites" = some f) (hfn : Tryd.pinned.checked.prog.funcs[f]? = some fn) :
    false = Tryd.pinned.checked.prog.looks [] ∧ ∀ (j : Nat) t, fn.params[j]? = some t → Tryd.pinned.checked.prog.wantsStandIn t = false := by
  obtain rfl : f = 3 := Option.some.inj ((show Tryd.prog.funcNamed "catchment/catchmentlaw13.EntryWrites" = some 3 by kernel_rfl).symm.trans hf) |>.symm
  obtain rfl : fn = Tryd.f3 := (Option.some.inj (Tryd.func3.symm.trans hfn)).symm
  refine ⟨by kernel_rfl, fun j t ht => ?_⟩
  rw [Tryd.params3] at ht
  have hm := Array.mem_of_getElem? ht
  simp only [List.mem_toArray, List.mem_cons, List.not_mem_nil, or_false] at hm
  subst hm
  · exact (show Tryd.prog.wantsStandIn 22 = false by kernel_rfl)

theorem proved : Rows.EntryWritesCardSaid :=
  Claim7.holds_tied_plain_at .later [] _ _ _ _ said (fun _ h => by cases h) (by kernel_rfl) (fun _ h => by cases h) entryWrites_row_tie rfl ⟨rfl, rfl⟩ (by kernel_rfl) rfl plain (by kernel_rfl)
#print axioms proved
end Go.Proofs.YtbcnekaagkdmeaaDoor.entryWrites
