/- EntryBack: for every input the law returns true, and what was there is as it was; the table as the program's text lays it: the card. -/
import Derived.Test.YtbcnekaagkdmeaaDoorCards
import Derived.Test.YtbcnekaagkdmeaaDoorTie
import Derived.WalkKit
import Derived.ProofKit
import Derived.OpenShut
import Derived.Deep.DeepHandedRow
import Derived.Lib.LaidTab
import Derived.Test.YtbcnekaagkdmeaaDoorEnRg
namespace Go.Proofs.YtbcnekaagkdmeaaDoor.entryBack
open Go.Proofs.YtbcnekaagkdmeaaDoor
open Go.ChangeShapes Go.WideShapes Go.ChangeAt Go.RowKit
open Go.ChangeMaps (open_string shut_string)

theorem own : ownKnob Tryd.prog.godebug = none := by kernel_rfl
theorem laidOut : laidOutB Tryd.prog = true := by kernel_rfl
theorem gTab : Tryd.prog.globalNamed "catchment/crc.half" = some 0 := by kernel_rfl
theorem gTabType : (Tryd.prog.globals[0]?).map (·.type) = some 93 := by kernel_rfl
theorem cellsT : Tryd.prog.cellsOf 93 = 16 := by kernel_rfl
theorem cellsE : Tryd.prog.cellsOf 33 = 1 := by kernel_rfl
def nums : List Int := [0, 498536548, 997073096, 651767980, 1994146192, 1802195444, 1303535960, 1342533948, 3988292384, 4027552580, 3604390888, 3412177804, 2607071920, 2262029012, 2685067896, 3183342108]
theorem nums_tab : ∀ j, j < 16 → nums.getD j 0 = ((Crc.tab j).toNat : Int) := by decide
theorem table {W : World} (h : laidMetH Tryd.prog Rows.entryBackRow.laid W) : Table W := fun j hj => by
  have ht : Lib.TabIs Tryd.prog W "catchment/crc.half" .u32 nums := Lib.tabIs_of_head (rest := []) gTab gTabType Tryd.underlying93 Tryd.underlying33 cellsE cellsT h
  have := ht.cell gTab j hj
  rw [nums_tab j hj] at this
  exact this

set_option maxRecDepth 100000 in
set_option maxHeartbeats 4000000 in
theorem walk (w : World) (ht : Table w) (A : Option Addr) (c : Nat) (l : List El) (hr : EnR w w.heap.size A c l) (hn : ∀ x ∈ l, x.p.name.size ≤ 9223372036854775807) :
    Calls Tryd.prog 4 #[.slice A l.length c] w (RetVal w (.bool true)) := by
  have HT := hide ht
  have hpos := ht.pos
  clear ht
  go_enter Tryd.func4, Tryd.ntmps4
  go_wp2_with fail
  refine (alive13 w HT.out).mono ?_
  rintro e w1 ⟨rfl, hb1⟩
  go_wp2_with fail
  refine (refGreat13 w1 A c l ((hr.below hb1).more hb1.size)).mono ?_
  rintro e w2 ⟨g, rfl, hsm, hb2⟩
  have hB2 := below_call hb1 hb1.size hb2
  clear hb1 hb2
  clear w1
  cases g with
  | true =>
    go_wp2_with fail
    go_ret
    exact ⟨rfl, hB2⟩
  | false =>
    clear hsm
    go_wp2_with fail
    refine (lawRight13 w2 A c l ((hr.below hB2).more hB2.size) hn _ rfl).mono ?_
    rintro e w3 ⟨hb3, oA, oc, out, rfl, hout, hO3⟩
    have hB3 := below_call hB2 hB2.size hb3
    obtain ⟨q, hq⟩ : ∃ q, out.map El.p = q := ⟨_, rfl⟩
    have hgood : errE q = 0 := by rw [← hq, hout]; exact errE_good (rgt_good _)
    have hlen := wrES_len hgood
    have hop : opE (wrES q) = (0, q) := by
      have h : open_ (wrES q) = some (wrE q) := open_seal _
      have he := ents_wrE hgood
      have hm : ¬ ((wrE q).length < 3 ∨ (wrE q).take 3 ≠ mf1) := by
        have e : wrE q = mf1 ++ (Var.put q.length ++ entsB q) := by unfold wrE; rw [List.append_assoc]
        rw [e, List.length_append]
        have e3 : mf1.length = 3 := rfl
        rintro (r | r)
        · omega
        · exact r (by rw [← e3, List.take_left])
      rw [opE_good h hm (by rw [he]; simp) (by rw [he]; exact ⟨hgood, rfl⟩), he]
    have HQ := hide hq
    have HOP := hide hop
    have HG := hide hgood
    have HL := hide hlen
    clear hout hB2 hb3 hgood hlen hop
    clear w2
    go_wp2_with fail
    refine (entWriteL w3 oA oc out q hq.symm hO3 (HT.out.below hB3 hpos)).mono ?_
    rintro e w4 ⟨hb4, (⟨_, v4, rfl, hown4⟩ | ⟨her, rfl⟩)⟩
    rotate_left 1
    · exact absurd HG.out her
    obtain ⟨A4, c4, rfl⟩ := own_slice hown4
    have hr4 := rd_own hown4
    have hB4 := below_call hB3 hB3.size hb4
    have hO4 := (hO3.below hb4).more hb4.size
    clear hown4 hB3 hb4 hO3 hq
    generalize wrES q = L at *
    go_wp2_with fail
    refine (entOpen w4 A4 c4 L hr4 (HT.out.below hB4 hpos) HL.out).mono ?_
    rintro e w5 ⟨hb5, lA, lc, ls, rfl, hls, h64, hO⟩
    rw [HOP.out] at hls ⊢
    have hB5 := below_call hB4 hB4.size hb5
    have hO5 := (hO4.below hb5).more hb5.size
    have HLS : Hid (out.map El.p = ls.map El.p) := hide (by rw [HQ.out]; exact hls.symm)
    have hOr := hO.rd
    clear hls h64 hO hB4 hb5 hO4 hr4
    go_wp2_with fail
    refine (refSame13 w5 oA lA oc lc out ls hO5 hOr HLS.out).mono ?_
    rintro e w6 ⟨rfl, hb6⟩
    go_wp2_with fail
    go_ret
    exact ⟨rfl, below_call hB5 hB5.size hb6⟩

set_option maxRecDepth 100000 in
theorem contract (H : Type) (enc : TypeId × Value → H) (W : World) (base : Nat) (args : Array Value) (ds gs : List (DataW H)) (before : List MemPlace)
    (hval0 : ∀ (j : Nat) t v, Tryd.f4.params[j]? = some t → args[j]? = some v → Value.okWide Tryd.prog W .any base t v)
    (hW : DataW.Whole enc Tryd.prog Tryd.f4.params.toList Rows.entryBackSpec.vars false W args.toList ds gs before) (hL : laidMetH Tryd.prog Rows.entryBackRow.laid W) :
    Calls Tryd.prog 4 args W fun e W' => ∃ v, e = .returned v ∧ Rows.entryBackSpec.post enc Tryd.prog Tryd.f4 false true false false W args v W' := by
  have hval : ∀ (j : Nat) t v, Tryd.f4.params[j]? = some t → args[j]? = some v → Value.okWide Tryd.prog W .any base t v := hval0
  have hW' := hW
  obtain ⟨p, q, hA0, hV, rfl, hfz, hnd⟩ := hW
  have hA : DataW.TrodAll enc Tryd.prog W 0 (fun _ => true) true Tryd.f4.params.toList args.toList ds p := hA0
  rw [Tryd.params4] at hA hval
  obtain ⟨v0, vs0, d0, ds0, p0, q0, hargs, rfl, rfl, h0, r0⟩ := trodAll_cons hA
  obtain ⟨rfl, rfl, rfl⟩ := trodAll_nil r0
  obtain rfl : args = #[v0] := by cases args; simp_all
  obtain ⟨rfl, rfl⟩ := trodVars_none hV
  have k0 := h0
  have lt0 : ∀ x ∈ p0, x.block < W.heap.size := by obtain ⟨m, hm⟩ := k0; exact DataW.trod_lt m _ _ _ hm
  obtain ⟨A0, c0, l0, rfl, w0, n0⟩ := frame_entries (hval 0 22 v0 rfl rfl) h0
  clear hA0 hval0
  refine (walk W (table hL) A0 c0 l0 w0 n0).mono fun e W' ⟨he, bel⟩ => ?_
  subst he
  exact ⟨_, rfl, _, _, _, [], _, [], hW', trodAll_mk1 (shut_bool Tryd.underlying4 _), (trodAll_cons_mk (Below.trod laidOut (by kernel_rfl) (of_decide_eq_true (by kernel_rfl)) k0 bel lt0) trodAll_mk0), rfl, bel.frame _, fun h => by cases h⟩

/-- a world for the witness: the table holds what its initialiser lays -/
noncomputable def laidWorld (os : Os) : World :=
  { World.holding Tryd.prog os ⟨#[], #[], []⟩ with heap := (World.holding Tryd.prog os ⟨#[], #[], []⟩).heap.modify 0 fun
      | .cells _ t frozen => .cells (nums.map (Value.int .u32)).toArray t frozen
      | o => o }
theorem laid_met (os : Os) : laidMet Tryd.prog Rows.entryBackRow.laid ((laidWorld os).forCall (fun _ _ => 0) ⟨#[], #[.slice none 0 0], []⟩).memory :=
  laidMet_of_run' 8 (by kernel_rfl) (by kernel_rfl)
theorem reads (os : Os) {H : Type} (enc : TypeId × Value → H) : ∃ places, DataW.whole enc Tryd.prog ((laidWorld os).forCall (fun _ _ => 0) ⟨#[], #[.slice none 0 0], []⟩).memory Tryd.f4.params.toList Rows.entryBackSpec.vars false (#[.slice none 0 0] : Array Value).toList 8 = some ([.nil], [], places) :=
  ⟨[], by kernel_rfl⟩

set_option maxRecDepth 100000 in
theorem lifted (os : Os) (started : os.Started) (H : Type) (enc : TypeId × Value → H) (F : Stop.Interp) :
    ReturnsInHanded {} Tryd.checked os 4 .any ((OpenSpec.ofChange Rows.entryBackSpec).preRow enc Tryd.prog Tryd.f4 Rows.entryBackRow.domain false Rows.entryBackRow.laid) (((OpenSpec.ofChange Rows.entryBackSpec).at F).post enc Tryd.prog Tryd.f4 false true false false) := by
  obtain ⟨places, hx⟩ := reads os enc
  refine returnsInHanded_of_row (C := Tryd.checked) (s := OpenSpec.ofChange Rows.entryBackSpec) own started (by kernel_rfl) Tryd.func4
    (witness_row_at (enc := enc) (C := Tryd.checked) false (laidWorld os) #[.slice none 0 0] rfl (by kernel_rfl) (by kernel_rfl) (by kernel_rfl)
      (OpenSpec.preRow_of_cond 8 hx (by kernel_rfl) (fun k hk => by cases hk) (by kernel_rfl) (laid_met os))) ?_
  intro W base args ds gs before hval hW _ _ _ hL _ _
  exact contract H enc W base args ds gs before hval hW hL

theorem said : Rows.EntryBackSaid :=
  OpenClaim.holds_of_cond 4 Tryd.f4 rfl rfl rfl rfl rfl rfl rfl ⟨rfl, rfl, rfl, rfl, rfl⟩ rfl rfl rfl rfl rfl (by kernel_rfl) Tryd.func4 (by kernel_rfl)
    (of_decide_eq_true (by kernel_rfl)) (by unfold Func.isWrapper; first | (rw [if_pos (by decide +kernel)]; kernel_rfl) | (rw [if_neg (by decide +kernel)]; exact ⟨rfl, rfl⟩))
    (fun os started H enc _ F => by rw [OpenClaim.pre_eq_preRow]; exact lifted os started H enc F)

theorem plain (f : FuncId) (fn : Func) (hf : Tryd.pinned.checked.prog.funcNamed "catchment/catchmentlaw13.EntryBack" = some f) (hfn : Tryd.pinned.checked.prog.funcs[f]? = some fn) :
    false = Tryd.pinned.checked.prog.looks [] ∧ ∀ (j : Nat) t, fn.params[j]? = some t → Tryd.pinned.checked.prog.wantsStandIn t = false := by
  obtain rfl : f = 4 := Option.some.inj ((show Tryd.prog.funcNamed "catchment/catchmentlaw13.EntryBack" = some 4 by kernel_rfl).symm.trans hf) |>.symm
  obtain rfl : fn = Tryd.f4 := (Option.some.inj (Tryd.func4.symm.trans hfn)).symm
  refine ⟨by kernel_rfl, fun j t ht => ?_⟩
  rw [Tryd.params4] at ht
  have hm := Array.mem_of_getElem? ht
  simp only [List.mem_toArray, List.mem_cons, List.not_mem_nil, or_false] at hm
  subst hm
  · exact (show Tryd.prog.wantsStandIn 22 = false by kernel_rfl)

theorem proved : Rows.EntryBackCardSaid :=
  Claim7.holds_tied_plain_at .later [] _ _ _ _ said (fun _ h => by cases h) (by kernel_rfl) (fun _ h => by cases h) entryBack_row_tie rfl ⟨rfl, rfl⟩ (by kernel_rfl) rfl plain (by kernel_rfl)
#print axioms proved
end Go.Proofs.YtbcnekaagkdmeaaDoor.entryBack
