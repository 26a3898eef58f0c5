/- EntryMerges: for every input the law returns true, and what was there is as it was; the table as the program's text lays it: the card. -/
import Derived.Test.YtbcnekaagkdmeaaDoorCards
import Derived.Test.YtbcnekaagkdmeaaDoorTie
import Derived.WalkKit
import Derived.ProofKit
import Derived.OpenShut
import Derived.Deep.DeepHandedRow
import Derived.Lib.LaidTab
import Derived.Test.YtbcnekaagkdmeaaDoorEnMe
namespace Go.Proofs.YtbcnekaagkdmeaaDoor.entryMerges
open Go.Proofs.YtbcnekaagkdmeaaDoor
open Go.ChangeShapes Go.WideShapes Go.ChangeAt Go.RowKit
open Go.ChangeMaps (open_string shut_string)

theorem own : ownKnob Tryd.prog.godebug = none := by kernel_rfl
theorem laidOut : laidOutB Tryd.prog = true := by kernel_rfl
theorem gTab : Tryd.prog.globalNamed "catchment/crc.half" = some 0 := by kernel_rfl
theorem gTabType : (Tryd.prog.globals[0]?).map (·.type) = some 93 := by kernel_rfl
theorem cellsT : Tryd.prog.cellsOf 93 = 16 := by kernel_rfl
theorem cellsE : Tryd.prog.cellsOf 33 = 1 := by kernel_rfl
def nums : List Int := [0, 498536548, 997073096, 651767980, 1994146192, 1802195444, 1303535960, 1342533948, 3988292384, 4027552580, 3604390888, 3412177804, 2607071920, 2262029012, 2685067896, 3183342108]
theorem nums_tab : ∀ j, j < 16 → nums.getD j 0 = ((Crc.tab j).toNat : Int) := by decide
theorem table {W : World} (h : laidMetH Tryd.prog Rows.entryMergesRow.laid W) : Table W := fun j hj => by
  have ht : Lib.TabIs Tryd.prog W "catchment/crc.half" .u32 nums := Lib.tabIs_of_head (rest := []) gTab gTabType Tryd.underlying93 Tryd.underlying33 cellsE cellsT h
  have := ht.cell gTab j hj
  rw [nums_tab j hj] at this
  exact this

theorem fold_mem (q : List En) : ∀ (acc : List En) (x : En), x ∈ q.foldl stepM acc → x ∈ acc ∨ x ∈ q := by
  induction q with
  | nil => exact fun acc x h => .inl h
  | cons y q ih =>
    intro acc x h
    rcases ih _ _ h with h | h
    · unfold stepM at h
      split at h
      · exact .inl h
      · rcases List.mem_append.1 h with h | h
        · exact .inl h
        · exact .inr (by rw [List.mem_singleton.1 h]; simp)
    · exact .inr (by simp [h])
theorem merge_mem {L : List (List En)} {x : En} (h : x ∈ mergeE L) : ∃ l ∈ L, x ∈ l := by
  rcases fold_mem L.flatten [] x h with h | h
  · cases h
  · exact List.mem_flatten.1 h
theorem flat_len_le {L : List (List En)} (h : ∀ l ∈ L, l.length ≤ 200) : L.flatten.length ≤ L.length * 200 := by
  induction L with
  | nil => simp
  | cons l L ih =>
    have h1 := h l (by simp)
    have h2 := ih fun x hx => h x (by simp [hx])
    rw [List.flatten_cons, List.length_append, List.length_cons, Nat.succ_mul]
    omega
set_option maxRecDepth 100000 in
set_option maxHeartbeats 4000000 in
theorem walk (w : World) (ht : Table w) (A : Option Addr) (c : Nat) (ls : List Ll) (hr : Rd w w.heap.size 1 A ls.length c (llsV ls)) (hi : ∀ x ∈ ls, EnR w w.heap.size x.A x.c x.l ∧ ∀ y ∈ x.l, y.p.name.size ≤ 9223372036854775807) :
    Calls Tryd.prog 7 #[.slice A ls.length c] w (RetVal w (.bool true)) := by
  have HT := hide ht
  have hpos := ht.pos
  clear ht
  go_enter Tryd.func7, Tryd.ntmps7
  go_wp2_with fail
  refine (alive13 w HT.out).mono ?_
  rintro e w1 ⟨rfl, hb1⟩
  by_cases h20 : 20 < ls.length
  · have t9 : decide ((20 : Int) < (ls.length : Int)) = true := decide_eq_true (by omega)
    go_wp2_with fail
    go_ret
    exact ⟨rfl, hb1⟩
  have t9 : decide ((20 : Int) < (ls.length : Int)) = false := decide_eq_false (by omega)
  have hl20 : ls.length ≤ 20 := by omega
  have hbW := hb1.size
  clear h20
  go_wp2_with fail
  go_loopw [3] (fun iv wr => ∃ i : Nat, iv = .int .i64 (i : Int) ∧ i ≤ ls.length ∧ Hid (∀ j, j < i → SmE (ls.getD j default).l) ∧ Below w1.heap.size w1 wr) (fun iv _ => ls.length - (intOf iv).toNat)
  case atStart => exact ⟨0, rfl, Nat.zero_le _, hide (fun j hj => by omega), Below.refl _ _⟩
  case round =>
    obtain ⟨i, rfl, hil, hf, hbr1⟩ := hrel
    have hbr := hb1.trans (hbr1.mono hbW)
    by_cases hlt : i < ls.length
    · obtain ⟨lb, lo, rfl, hlb, hcl⟩ := hr.llA hlt
      have hin := (hi (ls.getD i default) (getD_mem hlt)).1
      obtain ⟨X, hX⟩ : ∃ X, ls.getD i default = X := ⟨_, rfl⟩
      have hcell := (hbr.cell (p := ⟨lb, lo + i, none⟩) hlb).trans (hcl X hX)
      rw [hX] at hin
      have HX := hide hX
      clear hcl hX
      go_wp2_with fail
      refine (refGreat13 wr X.A X.c X.l ((hin.below hbr).more hbr.size)).mono ?_
      rintro e w2 ⟨g, rfl, hsm, hb2⟩
      have hB2 := below_call hbr hbr.size hb2
      have hB21 := below_call hbr1 hbr1.size hb2
      cases g with
      | true =>
        clear hcell
        go_wp2_with fail
        go_ret
        exact ⟨rfl, hB2⟩
      | false =>
        have HS : Hid (∀ j, j < i + 1 → SmE (ls.getD j default).l) := hide fun j hj => by
          rcases Nat.lt_or_ge j i with q | q
          · exact hf.out j q
          · obtain rfl : j = i := by omega
            rw [HX.out]
            exact hsm rfl
        clear hcell hsm hb2 hB2
        go_wp2_with fail
        go_roundw
        case rel => exact ⟨i + 1, by go_num, hlt, HS, hB21⟩
        case measure => simp [intOf]; omega
    · have hsm : ∀ x ∈ ls, SmE x.l := fun x hx => by
        obtain ⟨j, hj, rfl⟩ := List.getElem_of_mem hx
        have := hf.out j (by omega)
        rw [getD_at _ _ hj] at this
        exact this
      obtain ⟨L, hL⟩ : ∃ L, L = ls.map fun x => x.l.map El.p := ⟨_, rfl⟩
      have hsz : L.flatten.length ≤ 4000 := by
        have h1 := flat_len_le (L := L) (fun l hl => by
          rw [hL] at hl
          obtain ⟨x, hx, rfl⟩ := List.mem_map.1 hl
          rw [List.length_map]
          exact (hsm x hx).1)
        have h2 : L.length ≤ 20 := by rw [hL, List.length_map]; exact hl20
        have h3 : L.length * 200 ≤ 20 * 200 := Nat.mul_le_mul_right _ h2
        omega
      have hsmall : ∀ x ∈ ls, ∀ y ∈ x.l, y.p.name.size ≤ 9223372036854775807 ∧ y.p.stats.length ≤ 1000000 := fun x hx y hy => by
        have := (hsm x hx).2 y hy
        omega
      have hpm : ∀ x ∈ mergeE L, x.name.size ≤ 9223372036854775807 ∧ x.stats.length ≤ 1000000 := fun x hx => by
        obtain ⟨l, hl, hxl⟩ := merge_mem hx
        rw [hL] at hl
        obtain ⟨z, hz, rfl⟩ := List.mem_map.1 hl
        obtain ⟨y, hy, rfl⟩ := List.mem_map.1 hxl
        exact hsmall z hz y hy
      have HL := hide hL
      have HPM := hide hpm
      have HSM := hide hsmall
      clear hf hsm hpm hsmall hL
      have hrr := (hr.below hbr).more hbr.size
      have hii : ∀ x ∈ ls, EnR wr wr.heap.size x.A x.c x.l := fun x hx => ((hi x hx).1.below hbr).more hbr.size
      go_wp2_with fail
      refine (entMerge wr A c ls hrr hii HSM.out L HL.out (by omega)).mono ?_
      rintro e w3 ⟨hb3, mA, mc, m, rfl, hm, hM⟩
      have hrr3 := (hrr.below hb3).more hb3.size
      have hii3 : ∀ x ∈ ls, EnR w3 w3.heap.size x.A x.c x.l := fun x hx => ((hii x hx).below hb3).more hb3.size
      have hB3 := below_call hbr hbr.size hb3
      have HMM := hide hm
      clear hrr hii hb3 hbr hbr1 hm
      go_wp2_with fail
      refine (refMerge13 w3 A c ls hrr3 hii3 L HL.out (by omega)).mono ?_
      rintro e w4 ⟨hb4, nA, nc, n, rfl, hnn, hN⟩
      have hM4 := (hM.below hb4).more hb4.size
      have hB4 := below_call hB3 hB3.size hb4
      have HEQ : Hid (m.map El.p = n.map El.p) := hide (by rw [HMM.out, hnn])
      clear hrr3 hii3 hb4 hB3 hM hnn
      go_wp2_with fail
      refine (refSame13 w4 mA nA mc nc m n hM4 hN HEQ.out).mono ?_
      rintro e w5 ⟨rfl, hb5⟩
      have hM5 := (hM4.below hb5).more hb5.size
      have hB5 := below_call hB4 hB4.size hb5
      clear hM4 hN hb5 hB4
      have hml : m.length ≤ 4000 := by
        have h1 : m.length = (mergeE L).length := by rw [← HMM.out, List.length_map]
        have h2 := mg_len L.flatten
        unfold mergeE at h1
        omega
      go_wp2_with fail
      have l6 : Rd (w5.alloc (.cells #[.slice mA m.length mc, .slice mA m.length mc] 22)) (w5.heap.size + 1) 1 (some ⟨w5.heap.size, 0, none⟩) 2 2 (llsV [⟨m, mA, mc⟩, ⟨m, mA, mc⟩]) := Rd.lit (n := 2) (sz := 1) w5 22 #[.slice mA m.length mc, .slice mA m.length mc] rfl (by unfold maxLen; omega)
      have hb6 := (Below.refl w5.heap.size w5).alloc (Nat.le_refl _) (.cells #[.slice mA m.length mc, .slice mA m.length mc] 22)
      have z6 : (w5.alloc (.cells #[.slice mA m.length mc, .slice mA m.length mc] 22)).heap.size = w5.heap.size + 1 := by simp
      have hM6 := (hM5.below hb6).more hb6.size
      have hB6 := below_call hB5 hB5.size hb6
      rw [← z6] at l6
      generalize w5.alloc (.cells #[.slice mA m.length mc, .slice mA m.length mc] 22) = w6 at *
      have hTW : mergeE [m.map El.p, m.map El.p] = mergeE L := by rw [HMM.out]; exact merge_twice (mg_nodup _)
      have hE : Calls Tryd.prog 19 #[.slice (some ⟨w5.heap.size, 0, none⟩) 2 2] w6 (MgEnd w6 (mergeE [m.map El.p, m.map El.p])) :=
        entMerge w6 (some ⟨w5.heap.size, 0, none⟩) 2 [⟨m, mA, mc⟩, ⟨m, mA, mc⟩] l6 (fun x hx => by
          simp only [List.mem_cons, List.not_mem_nil, or_false, or_self] at hx
          subst hx
          exact hM6) (fun x hx y hy => by
          simp only [List.mem_cons, List.not_mem_nil, or_false, or_self] at hx
          subst hx
          exact HPM.out y.p (by rw [← HMM.out]; exact List.mem_map_of_mem hy)) _ rfl (by simp; omega)
      rw [hTW] at hE
      clear l6 hb6 z6 hTW hM5 hB5
      refine hE.mono ?_
      rintro e w7 ⟨hb7, pA, pc, p, rfl, hpp, hP⟩
      have hM7 := (hM6.below hb7).more hb7.size
      have hB7 := below_call hB6 hB6.size hb7
      have HE2 : Hid (p.map El.p = m.map El.p) := hide (by rw [HMM.out, hpp])
      clear hE hM6 hb7 hB6 hpp
      go_wp2_with fail
      refine (refSame13 w7 pA mA pc mc p m hP hM7 HE2.out).mono ?_
      rintro e w8 ⟨rfl, hb8⟩
      go_wp2_with fail
      go_ret
      exact ⟨rfl, below_call hB7 hB7.size hb8⟩

set_option maxRecDepth 100000 in
theorem contract (H : Type) (enc : TypeId × Value → H) (W : World) (base : Nat) (args : Array Value) (ds gs : List (DataW H)) (before : List MemPlace)
    (hval0 : ∀ (j : Nat) t v, Tryd.f7.params[j]? = some t → args[j]? = some v → Value.okWide Tryd.prog W .any base t v)
    (hW : DataW.Whole enc Tryd.prog Tryd.f7.params.toList Rows.entryMergesSpec.vars false W args.toList ds gs before) (hL : laidMetH Tryd.prog Rows.entryMergesRow.laid W) :
    Calls Tryd.prog 7 args W fun e W' => ∃ v, e = .returned v ∧ Rows.entryMergesSpec.post enc Tryd.prog Tryd.f7 false true false false W args v W' := by
  have hval : ∀ (j : Nat) t v, Tryd.f7.params[j]? = some t → args[j]? = some v → Value.okWide Tryd.prog W .any base t v := hval0
  have hW' := hW
  obtain ⟨p, q, hA0, hV, rfl, hfz, hnd⟩ := hW
  have hA : DataW.TrodAll enc Tryd.prog W 0 (fun _ => true) true Tryd.f7.params.toList args.toList ds p := hA0
  rw [Tryd.params7] at hA hval
  obtain ⟨v0, vs0, d0, ds0, p0, q0, hargs, rfl, rfl, h0, r0⟩ := trodAll_cons hA
  obtain ⟨rfl, rfl, rfl⟩ := trodAll_nil r0
  obtain rfl : args = #[v0] := by cases args; simp_all
  obtain ⟨rfl, rfl⟩ := trodVars_none hV
  have k0 := h0
  have lt0 : ∀ x ∈ p0, x.block < W.heap.size := by obtain ⟨m, hm⟩ := k0; exact DataW.trod_lt m _ _ _ hm
  obtain ⟨A0, c0, l0, rfl, w0, n0⟩ := frame_lists (hval 0 46 v0 rfl rfl) h0
  clear hA0 hval0
  refine (walk W (table hL) A0 c0 l0 w0 n0).mono fun e W' ⟨he, bel⟩ => ?_
  subst he
  exact ⟨_, rfl, _, _, _, [], _, [], hW', trodAll_mk1 (shut_bool Tryd.underlying4 _), (trodAll_cons_mk (Below.trod laidOut (by kernel_rfl) (of_decide_eq_true (by kernel_rfl)) k0 bel lt0) trodAll_mk0), rfl, bel.frame _, fun h => by cases h⟩

/-- a world for the witness: the table holds what its initialiser lays -/
noncomputable def laidWorld (os : Os) : World :=
  { World.holding Tryd.prog os ⟨#[], #[], []⟩ with heap := (World.holding Tryd.prog os ⟨#[], #[], []⟩).heap.modify 0 fun
      | .cells _ t frozen => .cells (nums.map (Value.int .u32)).toArray t frozen
      | o => o }
theorem laid_met (os : Os) : laidMet Tryd.prog Rows.entryMergesRow.laid ((laidWorld os).forCall (fun _ _ => 0) ⟨#[], #[.slice none 0 0], []⟩).memory :=
  laidMet_of_run' 8 (by kernel_rfl) (by kernel_rfl)
theorem reads (os : Os) {H : Type} (enc : TypeId × Value → H) : ∃ places, DataW.whole enc Tryd.prog ((laidWorld os).forCall (fun _ _ => 0) ⟨#[], #[.slice none 0 0], []⟩).memory Tryd.f7.params.toList Rows.entryMergesSpec.vars false (#[.slice none 0 0] : Array Value).toList 8 = some ([.nil], [], places) :=
  ⟨[], by kernel_rfl⟩

set_option maxRecDepth 100000 in
theorem lifted (os : Os) (started : os.Started) (H : Type) (enc : TypeId × Value → H) (F : Stop.Interp) :
    ReturnsInHanded {} Tryd.checked os 7 .any ((OpenSpec.ofChange Rows.entryMergesSpec).preRow enc Tryd.prog Tryd.f7 Rows.entryMergesRow.domain false Rows.entryMergesRow.laid) (((OpenSpec.ofChange Rows.entryMergesSpec).at F).post enc Tryd.prog Tryd.f7 false true false false) := by
  obtain ⟨places, hx⟩ := reads os enc
  refine returnsInHanded_of_row (C := Tryd.checked) (s := OpenSpec.ofChange Rows.entryMergesSpec) own started (by kernel_rfl) Tryd.func7
    (witness_row_at (enc := enc) (C := Tryd.checked) false (laidWorld os) #[.slice none 0 0] rfl (by kernel_rfl) (by kernel_rfl) (by kernel_rfl)
      (OpenSpec.preRow_of_cond 8 hx (by kernel_rfl) (fun k hk => by cases hk) (by kernel_rfl) (laid_met os))) ?_
  intro W base args ds gs before hval hW _ _ _ hL _ _
  exact contract H enc W base args ds gs before hval hW hL

theorem said : Rows.EntryMergesSaid :=
  OpenClaim.holds_of_cond 7 Tryd.f7 rfl rfl rfl rfl rfl rfl rfl ⟨rfl, rfl, rfl, rfl, rfl⟩ rfl rfl rfl rfl rfl (by kernel_rfl) Tryd.func7 (by kernel_rfl)
    (of_decide_eq_true (by kernel_rfl)) (by unfold Func.isWrapper; first | (rw [if_pos (by decide +kernel)]; kernel_rfl) | (rw [if_neg (by decide +kernel)]; exact ⟨rfl, rfl⟩))
    (fun os started H enc _ F => by rw [OpenClaim.pre_eq_preRow]; exact lifted os started H enc F)

theorem plain (f : FuncId) (fn : Func) (hf : Tryd.pinned.checked.prog.funcNamed "catchment/catchmentlaw13.EntryMerges" = some f) (hfn : Tryd.pinned.checked.prog.funcs[f]? = some fn) :
    false = Tryd.pinned.checked.prog.looks [] ∧ ∀ (j : Nat) t, fn.params[j]? = some t → Tryd.pinned.checked.prog.wantsStandIn t = false := by
  obtain rfl : f = 7 := Option.some.inj ((show Tryd.prog.funcNamed "catchment/catchmentlaw13.EntryMerges" = some 7 by kernel_rfl).symm.trans hf) |>.symm
  obtain rfl : fn = Tryd.f7 := (Option.some.inj (Tryd.func7.symm.trans hfn)).symm
  refine ⟨by kernel_rfl, fun j t ht => ?_⟩
  rw [Tryd.params7] at ht
  have hm := Array.mem_of_getElem? ht
  simp only [List.mem_toArray, List.mem_cons, List.not_mem_nil, or_false] at hm
  subst hm
  · exact (show Tryd.prog.wantsStandIn 46 = false by kernel_rfl)

theorem proved : Rows.EntryMergesCardSaid :=
  Claim7.holds_tied_plain_at .later [] _ _ _ _ said (fun _ h => by cases h) (by kernel_rfl) (fun _ h => by cases h) entryMerges_row_tie rfl ⟨rfl, rfl⟩ (by kernel_rfl) rfl plain (by kernel_rfl)
#print axioms proved
end Go.Proofs.YtbcnekaagkdmeaaDoor.entryMerges
