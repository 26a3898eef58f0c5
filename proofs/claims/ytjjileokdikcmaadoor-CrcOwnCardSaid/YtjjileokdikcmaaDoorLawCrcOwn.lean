/- CrcOwn: for every input the law returns true, and what was there is as it was; the table as the program's text lays it: the card. -/
import Derived.Test.YtjjileokdikcmaaDoorCards
import Derived.Test.YtjjileokdikcmaaDoorTie
import Derived.Test.YtjjileokdikcmaaDoorFrame
import Derived.WalkKit
import Derived.ProofKit
import Derived.OpenShut
import Derived.Deep.DeepHandedRow
import Derived.Lib.LaidTab
import Derived.Test.YtjjileokdikcmaaDoorCrcA
import Derived.Test.YtjjileokdikcmaaDoorCrcP
namespace Go.Proofs.YtjjileokdikcmaaDoor.crcOwn
open Go.Proofs.YtjjileokdikcmaaDoor
open Go.ChangeShapes Go.WideShapes Go.ChangeAt Go.RowKit
open Go.ChangeMaps (open_string shut_string)

theorem own : ownKnob Tryd.prog.godebug = none := by kernel_rfl
theorem laidOut : laidOutB Tryd.prog = true := by kernel_rfl
theorem gTab : Tryd.prog.globalNamed "catchment/crc.half" = some 0 := by kernel_rfl
theorem gTabType : (Tryd.prog.globals[0]?).map (·.type) = some 35 := by kernel_rfl
theorem cellsT : Tryd.prog.cellsOf 35 = 16 := by kernel_rfl
theorem cellsE : Tryd.prog.cellsOf 22 = 1 := by kernel_rfl
def nums : List Int := [0, 498536548, 997073096, 651767980, 1994146192, 1802195444, 1303535960, 1342533948, 3988292384, 4027552580, 3604390888, 3412177804, 2607071920, 2262029012, 2685067896, 3183342108]
theorem nums_tab : ∀ j, j < 16 → nums.getD j 0 = ((Crc.tab j).toNat : Int) := by decide
theorem table {W : World} (h : laidMetH Tryd.prog Rows.crcOwnRow.laid W) : Table W := fun j hj => by
  have ht : Lib.TabIs Tryd.prog W "catchment/crc.half" .u32 nums := Lib.tabIs_of_head (rest := []) gTab gTabType Tryd.underlying35 Tryd.underlying22 cellsE cellsT h
  have := ht.cell gTab j hj
  rw [nums_tab j hj] at this
  exact this

theorem bytesV_set (l : List UInt8) (k : Nat) (y : UInt8) : bytesV (l.set k y) = (bytesV l).set k (byteV y) := by simp [bytesV, List.map_set]
set_option maxRecDepth 100000 in
set_option maxHeartbeats 1000000 in
theorem walk (w : World) (ht : Table w) (A : Option Addr) (n c : Nat) (l : List UInt8) (hr : Rd w w.heap.size 1 A n c (bytesV l)) :
    Calls Tryd.prog 7 #[.slice A n c] w (RetVal w (.bool true)) := by
  obtain rfl : n = l.length := by have := hr.len; rw [bytesV_length] at this; omega
  have HT := hide ht
  have hpos := ht.pos
  clear ht
  by_cases h1 : l.length ≤ 5000
  · have t1 : decide ((5000 : Int) < (l.length : Int)) = false := by simp; omega
    go_enter Tryd.func7, Tryd.ntmps7
    go_wp2_with fail
    refine (aliveCrc _ HT.out).mono ?_
    rintro e w1 ⟨rfl, hb1⟩
    have hlit := own_lit w1 (base := w1.heap.size) 5 1 0 #[] (Nat.le_refl _) (by decide) rfl
    have k1' := ((hr.below hb1).more hb1.size).alloc (Nat.le_refl _) (.cells #[] 5)
    have hb1a := hb1.alloc hb1.size (.cells #[] 5)
    go_wp2_with (at_builtin; refine wpList_app _ tyBytes rfl (.tmp 15) (.tmp 16) rfl w1.heap.size _ 0 [] rfl hlit w1.heap.size A _ c _ rfl k1' (bytesV_one _) (by omega) (by simp) ?_; intro v2 w2 hown2 hg2 _; simp only [Nat.zero_add, List.nil_append] at hown2; have hb2 := below_app hb1a hb1.size hlit hg2 hb1a.size)
    obtain ⟨A2, c2, rfl, r2⟩ := Rd.of_own hown2
    have rb2 := (hr.below hb2).more hb2.size
    clear hown2 hg2 hlit k1' hb1a hb1
    go_wp2_with fail
    refine (crcSeal w2 _ c A l rb2 (HT.out.below hb2 hpos) (by omega)).mono ?_
    rintro e w3 ⟨v3, rfl, hown3, hb3⟩
    have hsl := seal_length l
    have hsl2 : (seal_ l).length ≤ 1000000 := by omega
    have hslp : 0 < (seal_ l).length := by omega
    clear hsl
    obtain ⟨g, cap, rfl, hg1, hg2⟩ := hown3.form hslp
    obtain ⟨A3, c3, hA3, r3⟩ := Rd.of_own hown3
    injection hA3 with q1 q2 q3
    subst q1 q3
    have hb3' := below_call hb2 hb2.size hb3
    have hlit3 := own_lit w3 (base := w3.heap.size) 5 1 0 #[] (Nat.le_refl _) (by decide) rfl
    have r3' := r3.alloc (Nat.le_refl _) (.cells #[] 5)
    have hb3a : Below w3.heap.size w3 (w3.alloc (.cells #[] 5)) := (Below.refl _ _).alloc (Nat.le_refl _) _
    go_wp2_with (at_builtin; refine wpList_app _ tyBytes rfl (.tmp 20) (.tmp 21) rfl w3.heap.size _ 0 [] rfl hlit3 w3.heap.size _ _ _ _ rfl r3' (bytesV_one _) (by omega) (by simp) ?_; intro v4 w4 hown4 hg4 _; simp only [Nat.zero_add, List.nil_append] at hown4; have hb4 := below_app hb3a (Nat.le_refl _) hlit3 hg4 hb3a.size)
    obtain ⟨A4, c4, rfl, r4⟩ := Rd.of_own hown4
    have hb4' := below_call hb3' hb3'.size hb4
    have rs4 := (r3.below hb4).more hb4.size
    clear hown4 hg4 hlit3 r3' hb3a r3
    go_wp2_with fail
    refine (crcOpen w4 _ cap _ _ rs4 (HT.out.below hb4' hpos) hsl2).mono ?_
    intro e w5 h5
    unfold RetOpen at h5
    rw [open_seal] at h5
    rcases h5 with ⟨t, v5, q1, rfl, hown5, hb5⟩ | ⟨q1, _⟩
    rotate_left 1
    · cases q1
    cases q1
    obtain ⟨A5, c5, rfl, _⟩ := Rd.of_own hown5
    have hz23 := hb3.size
    have hz34 := hb4.size
    have rb4 := ((rb2.below hb3).more hb3.size)
    have rb4 := (rb4.below hb4).more hb4.size
    have rx4 := ((r2.below hb3).more hb3.size)
    have rx4 := (rx4.below hb4).more hb4.size
    have own4 := own_below hown3 hb4
    have hB4 := below_call hb3 hb3.size hb4
    clear hb3 hb4 hown3 hb3' hb4'
    go_wp2_with fail
    go_loopw [8] (fun iv wr => ∃ (k : Nat) (L : List UInt8), k ≤ l.length ∧ iv = .int .i64 k ∧ L.length = l.length ∧ wr.ownsRow w4.heap.size 5 1 (.slice A5 l.length c5) l.length (bytesV L) ∧ Below w4.heap.size w4 wr) (fun iv _ => l.length - (intOf iv).toNat)
    case atStart => exact ⟨0, l, Nat.zero_le _, rfl, rfl, hown5, hb5⟩
    case round =>
      obtain ⟨k, L, hk, rfl, hL, hown, hbr⟩ := hrel
      by_cases hlt : k < l.length
      · obtain ⟨g5, cap5, hv5, hg5, _⟩ := hown.form (by omega)
        injection hv5 with q1 q2 q3
        subst q1 q3
        have hcell := hown.cellAt k (by omega)
        rw [bytesV_get _ k (by omega)] at hcell
        have hfz := hown.frozenAt k
        obtain ⟨x, hx⟩ : ∃ x, x = L[k] := ⟨_, rfl⟩
        have hcell' : wr.cell? ⟨g5, k, none⟩ = some (.int .u8 (x.toNat : Int)) := by rw [hcell, hx]; rfl
        obtain ⟨z, hz⟩ : ∃ z : UInt8, z = UInt8.ofNat (x.toNat + 1) := ⟨_, rfl⟩
        have hz2 : ((x.toNat : Int) + 1) % 256 = (z.toNat : Int) := by rw [hz, UInt8.toNat_ofNat']; omega
        have hb3' := hbr.setCell (p := ⟨g5, k, none⟩) hg5 (byteV z)
        have hown3 := (hown.stored k (byteV z)).1
        rw [← bytesV_set] at hown3
        have hL2 : (L.set k z).length = l.length := by rw [List.length_set]; exact hL
        clear hcell hx hz hown hbr
        go_wp2_with fail
        go_roundw
        case rel => exact ⟨k + 1, L.set k z, by omega, by go_num, hL2, hown3, hb3'⟩
        case measure => simp [intOf]; omega
      · obtain rfl : k = l.length := by omega
        have own5 := own_below own4 hbr
        have hB5 := below_call hB4 hB4.size hbr
        have e1 := run_str (P := Tryd.prog) wr Tryd.underlying23 Tryd.underlying5 Tryd.underlying9 (rb4.below hbr)
        have e2 := run_str (P := Tryd.prog) wr Tryd.underlying23 Tryd.underlying5 Tryd.underlying9 (rx4.below hbr)
        have e3 := run_str (P := Tryd.prog) wr Tryd.underlying23 Tryd.underlying5 Tryd.underlying9 (rs4.below hbr)
        have e4 := run_str (P := Tryd.prog) wr Tryd.underlying23 Tryd.underlying5 Tryd.underlying9 (r4.below hbr)
        clear hown hbr
        go_wp2_with fail
        clear e1 e2 e3 e4
        go_loopw [9] (fun iv wr => ∃ (k : Nat) (L : List UInt8), k ≤ (seal_ l).length ∧ iv = .int .i64 k ∧ L.length = (seal_ l).length ∧ wr.ownsRow w2.heap.size 5 1 (.slice (some ⟨g, 0, none⟩) (seal_ l).length cap) (seal_ l).length (bytesV L) ∧ Below w2.heap.size w2 wr) (fun iv _ => (seal_ l).length - (intOf iv).toNat)
        case atStart => exact ⟨0, seal_ l, Nat.zero_le _, rfl, rfl, own5, hB5⟩
        case round =>
          obtain ⟨k, L, hk, rfl, hL, hown, hbs⟩ := hrel
          by_cases hlt : k < (seal_ l).length
          · have hcell := hown.cellAt k (by omega)
            rw [bytesV_get _ k (by omega)] at hcell
            have hfz := hown.frozenAt k
            obtain ⟨x, hx⟩ : ∃ x, x = L[k] := ⟨_, rfl⟩
            have hcell' : wr.cell? ⟨g, k, none⟩ = some (.int .u8 (x.toNat : Int)) := by rw [hcell, hx]; rfl
            obtain ⟨z, hz⟩ : ∃ z : UInt8, z = UInt8.ofNat (x.toNat + 1) := ⟨_, rfl⟩
            have hz2 : ((x.toNat : Int) + 1) % 256 = (z.toNat : Int) := by rw [hz, UInt8.toNat_ofNat']; omega
            have hb3' := hbs.setCell (p := ⟨g, k, none⟩) hg1 (byteV z)
            have hown3 := (hown.stored k (byteV z)).1
            rw [← bytesV_set] at hown3
            have hL2 : (L.set k z).length = (seal_ l).length := by rw [List.length_set]; exact hL
            clear hcell hx hz hown hbs
            go_wp2_with fail
            go_roundw
            case rel => exact ⟨k + 1, L.set k z, by omega, by go_num, hL2, hown3, hb3'⟩
            case measure => simp [intOf]; omega
          · obtain rfl : k = (seal_ l).length := by omega
            have e1 := run_str (P := Tryd.prog) wr Tryd.underlying23 Tryd.underlying5 Tryd.underlying9 (rb2.below hbs)
            have e2 := run_str (P := Tryd.prog) wr Tryd.underlying23 Tryd.underlying5 Tryd.underlying9 (r2.below hbs)
            clear hown
            go_wp2_with fail
            go_ret
            exact ⟨rfl, below_call hb2 hb2.size hbs⟩
  · have t1 : decide ((5000 : Int) < (l.length : Int)) = true := by simp; omega
    clear h1
    go_enter Tryd.func7, Tryd.ntmps7
    go_wp2_with fail
    refine (aliveCrc _ HT.out).mono ?_
    rintro e w1 ⟨rfl, hb1⟩
    go_wp2_with fail
    go_ret
    exact ⟨rfl, hb1⟩

theorem contract (H : Type) (enc : TypeId × Value → H) (W : World) (base : Nat) (args : Array Value) (ds gs : List (DataW H)) (before : List MemPlace)
    (hval0 : ∀ (j : Nat) t v, Tryd.f7.params[j]? = some t → args[j]? = some v → Value.okWide Tryd.prog W .any base t v)
    (hW : DataW.Whole enc Tryd.prog Tryd.f7.params.toList Rows.crcOwnSpec.vars false W args.toList ds gs before) (hL : laidMetH Tryd.prog Rows.crcOwnRow.laid W) :
    Calls Tryd.prog 7 args W fun e W' => ∃ v, e = .returned v ∧ Rows.crcOwnSpec.post enc Tryd.prog Tryd.f7 false true false false W args v W' := by
  have hval : ∀ (j : Nat) t v, Tryd.f7.params[j]? = some t → args[j]? = some v → Value.okWide Tryd.prog W .any base t v := hval0
  have hW' := hW
  obtain ⟨p, q, hA0, hV, rfl, hfz, hnd⟩ := hW
  have hA : DataW.TrodAll enc Tryd.prog W 0 (fun _ => true) true Tryd.f7.params.toList args.toList ds p := hA0
  rw [Tryd.params7] at hA hval
  obtain ⟨v0, vs0, d0, ds0, p0, q0, hargs, rfl, rfl, h0, r0⟩ := trodAll_cons hA
  obtain ⟨rfl, rfl, rfl⟩ := trodAll_nil r0
  obtain rfl : args = #[v0] := by cases args; simp_all
  obtain ⟨rfl, rfl⟩ := trodVars_none hV
  have k0 := h0
  have lt0 : ∀ x ∈ p0, x.block < W.heap.size := by obtain ⟨m, hm⟩ := k0; exact DataW.trod_lt m _ _ _ hm
  obtain ⟨A0, n0, c0, l0, rfl, w0, hr0⟩ := frame_bytes Tryd.underlying23 Tryd.underlying5 (by kernel_rfl) (hval 0 23 v0 rfl rfl) h0
  clear hA0 hval0
  refine (walk W (table hL) A0 n0 c0 l0 w0).mono fun e W' ⟨he, bel⟩ => ?_
  subst he
  exact ⟨_, rfl, _, _, _, [], _, [], hW', trodAll_mk1 (shut_bool Tryd.underlying4 _), (trodAll_cons_mk (Below.trod laidOut (by kernel_rfl) (of_decide_eq_true (by kernel_rfl)) k0 bel lt0) trodAll_mk0), rfl, bel.frame _, fun h => by cases h⟩

/-- a world for the witness: the table holds what its initialiser lays -/
noncomputable def laidWorld (os : Os) : World :=
  { World.holding Tryd.prog os ⟨#[], #[], []⟩ with heap := (World.holding Tryd.prog os ⟨#[], #[], []⟩).heap.modify 0 fun
      | .cells _ t frozen => .cells (nums.map (Value.int .u32)).toArray t frozen
      | o => o }
theorem laid_met (os : Os) : laidMet Tryd.prog Rows.crcOwnRow.laid ((laidWorld os).forCall (fun _ _ => 0) ⟨#[], #[.slice none 0 0], []⟩).memory :=
  laidMet_of_run' 8 (by kernel_rfl) (by kernel_rfl)
theorem reads (os : Os) {H : Type} (enc : TypeId × Value → H) : ∃ places, DataW.whole enc Tryd.prog ((laidWorld os).forCall (fun _ _ => 0) ⟨#[], #[.slice none 0 0], []⟩).memory Tryd.f7.params.toList Rows.crcOwnSpec.vars false (#[.slice none 0 0] : Array Value).toList 8 = some ([.nil], [], places) :=
  ⟨[], by kernel_rfl⟩

set_option maxRecDepth 100000 in
theorem lifted (os : Os) (started : os.Started) (H : Type) (enc : TypeId × Value → H) (F : Stop.Interp) :
    ReturnsInHanded {} Tryd.checked os 7 .any ((OpenSpec.ofChange Rows.crcOwnSpec).preRow enc Tryd.prog Tryd.f7 Rows.crcOwnRow.domain false Rows.crcOwnRow.laid) (((OpenSpec.ofChange Rows.crcOwnSpec).at F).post enc Tryd.prog Tryd.f7 false true false false) := by
  obtain ⟨places, hx⟩ := reads os enc
  refine returnsInHanded_of_row (C := Tryd.checked) (s := OpenSpec.ofChange Rows.crcOwnSpec) own started (by kernel_rfl) Tryd.func7
    (witness_row_at (enc := enc) (C := Tryd.checked) false (laidWorld os) #[.slice none 0 0] rfl (by kernel_rfl) (by kernel_rfl) (by kernel_rfl)
      (OpenSpec.preRow_of_cond 8 hx (by kernel_rfl) (fun k hk => by cases hk) (by kernel_rfl) (laid_met os))) ?_
  intro W base args ds gs before hval hW _ _ _ hL _ _
  exact contract H enc W base args ds gs before hval hW hL

theorem said : Rows.CrcOwnSaid :=
  OpenClaim.holds_of_cond 7 Tryd.f7 rfl rfl rfl rfl rfl rfl rfl ⟨rfl, rfl, rfl, rfl, rfl⟩ rfl rfl rfl rfl rfl (by kernel_rfl) Tryd.func7 (by kernel_rfl)
    (of_decide_eq_true (by kernel_rfl)) (by unfold Func.isWrapper; first | (rw [if_pos (by decide +kernel)]; kernel_rfl) | (rw [if_neg (by decide +kernel)]; exact ⟨rfl, rfl⟩))
    (fun os started H enc _ F => by rw [OpenClaim.pre_eq_preRow]; exact lifted os started H enc F)

theorem plain (f : FuncId) (fn : Func) (hf : Tryd.pinned.checked.prog.funcNamed "catchment/catchmentlaw07.CrcOwn" = some f) (hfn : Tryd.pinned.checked.prog.funcs[f]? = some fn) :
    false = Tryd.pinned.checked.prog.looks [] ∧ ∀ (j : Nat) t, fn.params[j]? = some t → Tryd.pinned.checked.prog.wantsStandIn t = false := by
  obtain rfl : f = 7 := Option.some.inj ((show Tryd.prog.funcNamed "catchment/catchmentlaw07.CrcOwn" = some 7 by kernel_rfl).symm.trans hf) |>.symm
  obtain rfl : fn = Tryd.f7 := (Option.some.inj (Tryd.func7.symm.trans hfn)).symm
  refine ⟨by kernel_rfl, fun j t ht => ?_⟩
  rw [Tryd.params7] at ht
  have hm := Array.mem_of_getElem? ht
  simp only [List.mem_toArray, List.mem_cons, List.not_mem_nil, or_false] at hm
  subst hm
  · exact (show Tryd.prog.wantsStandIn 23 = false by kernel_rfl)

theorem proved : Rows.CrcOwnCardSaid :=
  Claim7.holds_tied_plain_at .later [] _ _ _ _ said (fun _ h => by cases h) (by kernel_rfl) (fun _ h => by cases h) crcOwn_row_tie rfl ⟨rfl, rfl⟩ (by kernel_rfl) rfl plain (by kernel_rfl)
#print axioms proved
end Go.Proofs.YtjjileokdikcmaaDoor.crcOwn
