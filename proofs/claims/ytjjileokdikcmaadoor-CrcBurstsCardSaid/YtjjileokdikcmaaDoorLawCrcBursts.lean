/- CrcBursts: for every input the law returns true, and what was there is as it was; the table as the program's text lays it: the card. -/
import Derived.Test.YtjjileokdikcmaaDoorCards
import Derived.Test.YtjjileokdikcmaaDoorTie
import Derived.Test.YtjjileokdikcmaaDoorFrame
import Derived.WalkKit
import Derived.ProofKit
import Derived.OpenShut
import Derived.Deep.DeepHandedRow
import Derived.Lib.LaidTab
import Derived.Test.YtjjileokdikcmaaDoorCrcA
import Derived.Test.YtjjileokdikcmaaDoorCrcB
namespace Go.Proofs.YtjjileokdikcmaaDoor.crcBursts
open Go.Proofs.YtjjileokdikcmaaDoor
open Go.ChangeShapes Go.WideShapes Go.ChangeAt Go.RowKit
open Go.ChangeMaps (open_string shut_string)

theorem own : ownKnob Tryd.prog.godebug = none := by kernel_rfl
theorem laidOut : laidOutB Tryd.prog = true := by kernel_rfl
theorem gTab : Tryd.prog.globalNamed "catchment/crc.half" = some 0 := by kernel_rfl
theorem gTabType : (Tryd.prog.globals[0]?).map (·.type) = some 35 := by kernel_rfl
theorem cellsT : Tryd.prog.cellsOf 35 = 16 := by kernel_rfl
theorem cellsE : Tryd.prog.cellsOf 22 = 1 := by kernel_rfl
def nums : List Int := [0, 498536548, 997073096, 651767980, 1994146192, 1802195444, 1303535960, 1342533948, 3988292384, 4027552580, 3604390888, 3412177804, 2607071920, 2262029012, 2685067896, 3183342108]
theorem nums_tab : ∀ j, j < 16 → nums.getD j 0 = ((Crc.tab j).toNat : Int) := by decide
theorem table {W : World} (h : laidMetH Tryd.prog Rows.crcBurstsRow.laid W) : Table W := fun j hj => by
  have ht : Lib.TabIs Tryd.prog W "catchment/crc.half" .u32 nums := Lib.tabIs_of_head (rest := []) gTab gTabType Tryd.underlying35 Tryd.underlying22 cellsE cellsT h
  have := ht.cell gTab j hj
  rw [nums_tab j hj] at this
  exact this

theorem bytesV_set (l : List UInt8) (k : Nat) (y : UInt8) : bytesV (l.set k y) = (bytesV l).set k (byteV y) := by simp [bytesV, List.map_set]
set_option maxRecDepth 100000 in
set_option maxHeartbeats 150000 in
theorem walk (w : World) (ht : Table w) (A : Option Addr) (n c : Nat) (l : List UInt8) (hr : Rd w w.heap.size 1 A n c (bytesV l)) (a : Int) (a0 : 0 ≤ a) (a1 : a ≤ 4294967295) (b : Int) (b0 : 0 ≤ b) (b1 : b ≤ 4294967295) :
    Calls Tryd.prog 4 #[.slice A n c, .int .u32 a, .int .u32 b] w (RetVal w (.bool true)) := by
  obtain rfl : n = l.length := by have := hr.len; rw [bytesV_length] at this; omega
  obtain ⟨p, rfl⟩ := Int.eq_ofNat_of_zero_le a0
  obtain ⟨t, rfl⟩ := Int.eq_ofNat_of_zero_le b0
  have HT := hide ht
  have hpos := ht.pos
  have hmax : l.length ≤ 9223372036854775807 := by have h1 := hr.le; have h2 := hr.cap; unfold maxLen at h2; omega
  have hT32 : t < 4294967296 := by omega
  clear ht b1
  by_cases h0 : l.length = 0
  · have t0 : ((l.length : Int) == 0) = true := by rw [h0]; rfl
    have H0 := hide h0
    clear h0
    go_enter Tryd.func4, Tryd.ntmps4
    go_wp2_with fail
    refine (aliveCrc _ HT.out).mono ?_
    rintro e w1 ⟨rfl, hb1⟩
    go_wp2_with fail
    go_ret
    exact ⟨rfl, hb1⟩
  · have t0 : ((l.length : Int) == 0) = false := by rw [beq_eq_false_iff_ne]; omega
    by_cases h1 : l.length ≤ 5000
    · have t1 : decide ((5000 : Int) < (l.length : Int)) = false := by simp; omega
      have hnp : 0 < l.length := by omega
      clear h0
      go_enter Tryd.func4, Tryd.ntmps4
      go_wp2_with fail
      refine (aliveCrc _ HT.out).mono ?_
      rintro e w1 ⟨rfl, hb1⟩
      have hlit := own_lit w1 (base := w1.heap.size) 5 1 0 #[] (Nat.le_refl _) (by decide) rfl
      have k1' := ((hr.below hb1).more hb1.size).alloc (Nat.le_refl _) (.cells #[] 5)
      have hb1a := hb1.alloc hb1.size (.cells #[] 5)
      have hbb : Below w1.heap.size w1 (w1.alloc (.cells #[] 5)) := (Below.refl _ _).alloc (Nat.le_refl _) _
      go_wp2_with (at_builtin; refine wpList_app _ tyBytes rfl (.tmp 22) (.tmp 23) rfl w1.heap.size _ 0 [] rfl hlit w1.heap.size A _ c _ rfl k1' (bytesV_one _) (by omega) (by simp) ?_; intro v2 w2 hown2 hg2 _; simp only [Nat.zero_add, List.nil_append] at hown2; have hb2 := below_app hbb (Nat.le_refl _) hlit hg2 hbb.size)
      obtain ⟨g, cap, rfl, hg1, _⟩ := hown2.form hnp
      have rb1 := (hr.below hb1).more hb1.size
      obtain ⟨M, hM⟩ : ∃ M, M = 8 * l.length := ⟨_, rfl⟩
      obtain ⟨fr, hfr⟩ : ∃ fr, fr = p % M := ⟨_, rfl⟩
      have hfr1 : fr < M := by rw [hfr]; exact Nat.mod_lt _ (by omega)
      have e1 : (8 : Int) * (l.length : Int) = (M : Int) := by omega
      have e2 : (p : Int) % (M : Int) = (fr : Int) := by rw [hfr]; omega
      have hM1 : M ≤ 40000 := by omega
      have hM0 : 0 < M := by omega
      have HM := hide hM
      have e3 := wrap_small fr (Nat.lt_of_lt_of_le hfr1 hM1)
      clear hfr hM hlit k1' hb1a hg2 hbb
      go_wp2_with fail
      have e4 : wrap64 ((p : Int) % (8 * (l.length : Int))) = (fr : Int) := by rw [e1, e2]; exact e3
      rw [e4]
      clear e2 e3 e4
      go_loopw [8, 10] (fun dv iv wr => ∃ (i : Nat) (L : List UInt8) (d : Bool), i ≤ 32 ∧ iv = .int .i64 i ∧ dv = .bool d ∧ Hid (Flips l L fr t i) ∧ Hid (d = true ↔ Turned l fr t i) ∧ wr.ownsRow w1.heap.size 5 1 (.slice (some ⟨g, 0, none⟩) l.length cap) l.length (bytesV L) ∧ Below w1.heap.size w1 wr) (fun _ iv _ => 32 - (intOf iv).toNat)
      case atStart => exact ⟨0, l, false, by omega, rfl, rfl, hide (flips_start l fr t), hide ⟨(fun h => by cases h), (fun h => absurd h (turned_start l fr t))⟩, hown2, hb2⟩
      case round =>
        obtain ⟨i, L, d, hi, rfl, rfl, hF, hD, hown, hbr⟩ := hrel
        clear hmax a0 a1 b0 hnp h1 t0 t1
        by_cases hlt : i < 32
        · clear hi
          obtain ⟨k, hk, hk1, _hkw⟩ := sum_k2 fr i (Nat.lt_of_lt_of_le hfr1 hM1) hlt
          clear _hkw
          have hk2 : k < 40032 := small_k hfr1 hM1 hlt hk
          have hlt' : decide ((i : Int) < 32) = true := decide_eq_true (by exact_mod_cast hlt)
          have hmin : min i 32 = i := Nat.min_eq_left (Nat.le_of_lt hlt)
          have HLT := hide hlt
          clear hlt
          cases hb : t.testBit i with
          | true =>
            by_cases hkM : k < M
            · have hLl : L.length = l.length := hF.out.1
              have hql : k / 8 < L.length := q_lt HM.out rfl hkM hLl
              have hq1 := bit_one hT32 hb
              have HB := hide hb
              have HK := hide hk
              have hcell := hown.cellAt (k / 8) (by rw [Nat.mul_one, ← hLl]; exact hql)
              rw [bytesV_get _ (k / 8) hql] at hcell
              have hfz := hown.frozenAt (k / 8)
              obtain ⟨x, hx⟩ : ∃ x, x = L.getD (k / 8) 0 := ⟨_, rfl⟩
              have hcell' : wr.cell? ⟨g, k / 8, none⟩ = some (.int .u8 (x.toNat : Int)) := by rw [hcell, hx]; simp [List.getD, hql, byteV]
              have hql2 : k / 8 < l.length := hLl ▸ hql
              obtain ⟨z, hz1, hz2⟩ := xor_bit x k
              have hb3 := hbr.setCell (p := ⟨g, k / 8, none⟩) hg1 (byteV z)
              have hown3 := (hown.stored (k / 8) (byteV z)).1
              rw [← bytesV_set] at hown3
              have hyes : fr + i < 8 * l.length := by rw [← hk, ← HM.out]; exact hkM
              have hF2 := hide (flips_yes hF.out hb hyes x z (by rw [hx, hk]) (by rw [hz2, hk]))
              rw [← hk] at hF2
              have hD2 := hide (show (true = true) ↔ Turned l fr t (i + 1) from ⟨fun _ => turned_yes hb hyes, fun _ => rfl⟩)
              clear hz2 hyes
              have HX := hide hx
              have HQL := hide hql
              have t9 : decide ((k : Int) < (M : Int)) = true := decide_eq_true (by exact_mod_cast hkM)
              have HKM := hide hkM
              clear hcell hb hk hx hkM hLl hql hF hD hown hbr
              go_wp2_with fail
              go_roundw
              case rel => exact ⟨i + 1, L.set (k / 8) z, true, HLT.out, rfl, rfl, hF2, hD2, hown3, hb3⟩
              case measure => exact meas32 i HLT.out
            · have t9 : decide ((k : Int) < (M : Int)) = false := decide_eq_false (by exact_mod_cast hkM)
              have hq1 := bit_one hT32 hb
              have hno : ¬ (t.testBit i = true ∧ fr + i < 8 * l.length) := fun h => hkM (by rw [hk, HM.out]; exact h.2)
              have hF2 := hide (flips_no hF.out hno)
              have hD2 := hide (hD.out.trans (turned_no hno).symm)
              have HB := hide hb
              have HK := hide hk
              have HKM := hide hkM
              clear hb hk hno hF hD hkM
              go_wp2_with fail
              go_roundw
              case rel => exact ⟨i + 1, L, d, HLT.out, rfl, rfl, hF2, hD2, hown, hbr⟩
              case measure => exact meas32 i HLT.out
          | false =>
            have hq1 := bit_nil hT32 hb
            have hno : ¬ (t.testBit i = true ∧ fr + i < 8 * l.length) := fun h => by rw [hb] at h; exact absurd h.1 (by decide)
            have hF2 := hide (flips_no hF.out hno)
            have hD2 := hide (hD.out.trans (turned_no hno).symm)
            have HB := hide hb
            have HK := hide hk
            clear hb hk hno hF hD
            go_wp2_with fail
            go_roundw
            case rel => exact ⟨i + 1, L, d, HLT.out, rfl, rfl, hF2, hD2, hown, hbr⟩
            case measure => exact meas32 i HLT.out
        · obtain rfl : i = 32 := Nat.le_antisymm hi (Nat.not_lt.1 hlt)
          have hLl : L.length = l.length := hF.out.1
          have hfe := flips_end hF.out
          have hfin : ((Crc.crc l).toNat != (Crc.crc L).toNat) = d := by
            have h3 : Crc.crc l = Crc.crc L ↔ ¬ d = true := hfe.trans (not_congr hD.out.symm)
            cases d with
            | true => rw [bne_iff_ne]; intro h; exact absurd (h3.1 (BitVec.eq_of_toNat_eq h)) (by simp)
            | false => rw [h3.2 (by simp)]; simp
          have hb2r := below_call hb1 hb1.size hbr
          have hrl := rb1.below hbr
          obtain ⟨AL, cL, hAL, hrL⟩ := Rd.of_own hown
          injection hAL with q1 q2 q3
          subst q1 q3
          rw [← hLl] at hrL
          have T4 := hide (HT.out.below hb2r hpos)
          have HF := hide hfin
          have HLL := hide hLl
          clear hF hD hown hbr hfe hfin hLl hi hlt e1
          go_wp2_with fail
          refine (crcOf wr _ _ c A l hrl T4.out).mono ?_
          rintro e w5 ⟨rfl, rfl⟩
          go_wp2_with fail
          refine (crcOf _ _ _ cap _ L (HLL.out ▸ hrL) T4.out).mono ?_
          rintro e w6 ⟨rfl, rfl⟩
          go_wp2_with fail
          go_ret
          rw [cast_bne _ _ _ HF.out]
          exact ⟨rfl, hb2r⟩
    · have t1 : decide ((5000 : Int) < (l.length : Int)) = true := by simp; omega
      clear h1 h0
      go_enter Tryd.func4, Tryd.ntmps4
      go_wp2_with fail
      refine (aliveCrc _ HT.out).mono ?_
      rintro e w1 ⟨rfl, hb1⟩
      go_wp2_with fail
      go_ret
      exact ⟨rfl, hb1⟩

theorem contract (H : Type) (enc : TypeId × Value → H) (W : World) (base : Nat) (args : Array Value) (ds gs : List (DataW H)) (before : List MemPlace)
    (hval0 : ∀ (j : Nat) t v, Tryd.f4.params[j]? = some t → args[j]? = some v → Value.okWide Tryd.prog W .any base t v)
    (hW : DataW.Whole enc Tryd.prog Tryd.f4.params.toList Rows.crcBurstsSpec.vars false W args.toList ds gs before) (hL : laidMetH Tryd.prog Rows.crcBurstsRow.laid W) :
    Calls Tryd.prog 4 args W fun e W' => ∃ v, e = .returned v ∧ Rows.crcBurstsSpec.post enc Tryd.prog Tryd.f4 false true false false W args v W' := by
  have hval : ∀ (j : Nat) t v, Tryd.f4.params[j]? = some t → args[j]? = some v → Value.okWide Tryd.prog W .any base t v := hval0
  have hW' := hW
  obtain ⟨p, q, hA0, hV, rfl, hfz, hnd⟩ := hW
  have hA : DataW.TrodAll enc Tryd.prog W 0 (fun _ => true) true Tryd.f4.params.toList args.toList ds p := hA0
  rw [Tryd.params4] at hA hval
  obtain ⟨v0, vs0, d0, ds0, p0, q0, hargs, rfl, rfl, h0, r0⟩ := trodAll_cons hA
  obtain ⟨v1, vs1, d1, ds1, p1, q1, rfl, rfl, rfl, h1, r1⟩ := trodAll_cons r0
  obtain ⟨v2, vs2, d2, ds2, p2, q2, rfl, rfl, rfl, h2, r2⟩ := trodAll_cons r1
  obtain ⟨rfl, rfl, rfl⟩ := trodAll_nil r2
  obtain rfl : args = #[v0, v1, v2] := by cases args; simp_all
  obtain ⟨rfl, rfl⟩ := trodVars_none hV
  have k0 := h0
  have lt0 : ∀ x ∈ p0, x.block < W.heap.size := by obtain ⟨m, hm⟩ := k0; exact DataW.trod_lt m _ _ _ hm
  have k1 := h1
  have lt1 : ∀ x ∈ p1, x.block < W.heap.size := by obtain ⟨m, hm⟩ := k1; exact DataW.trod_lt m _ _ _ hm
  have k2 := h2
  have lt2 : ∀ x ∈ p2, x.block < W.heap.size := by obtain ⟨m, hm⟩ := k2; exact DataW.trod_lt m _ _ _ hm
  obtain ⟨A0, n0, c0, l0, rfl, w0, hr0⟩ := frame_bytes Tryd.underlying23 Tryd.underlying5 (by kernel_rfl) (hval 0 23 v0 rfl rfl) h0
  obtain ⟨a1, rfl, hd1, hp1, w1⟩ := open_int Tryd.underlying22 (hval 1 22 v1 rfl rfl) h1
  obtain ⟨a2, rfl, hd2, hp2, w2⟩ := open_int Tryd.underlying22 (hval 2 22 v2 rfl rfl) h2
  clear hA0 hval0
  refine (walk W (table hL) A0 n0 c0 l0 w0 a1 (bounds_u32 w1).1 (bounds_u32 w1).2 a2 (bounds_u32 w2).1 (bounds_u32 w2).2).mono fun e W' ⟨he, bel⟩ => ?_
  subst he
  exact ⟨_, rfl, _, _, _, [], _, [], hW', trodAll_mk1 (shut_bool Tryd.underlying4 _), (trodAll_cons_mk (Below.trod laidOut (by kernel_rfl) (of_decide_eq_true (by kernel_rfl)) k0 bel lt0) (trodAll_cons_mk (Below.trod laidOut (by kernel_rfl) (of_decide_eq_true (by kernel_rfl)) k1 bel lt1) (trodAll_cons_mk (Below.trod laidOut (by kernel_rfl) (of_decide_eq_true (by kernel_rfl)) k2 bel lt2) trodAll_mk0))), rfl, bel.frame _, fun h => by cases h⟩

/-- a world for the witness: the table holds what its initialiser lays -/
noncomputable def laidWorld (os : Os) : World :=
  { World.holding Tryd.prog os ⟨#[], #[], []⟩ with heap := (World.holding Tryd.prog os ⟨#[], #[], []⟩).heap.modify 0 fun
      | .cells _ t frozen => .cells (nums.map (Value.int .u32)).toArray t frozen
      | o => o }
theorem laid_met (os : Os) : laidMet Tryd.prog Rows.crcBurstsRow.laid ((laidWorld os).forCall (fun _ _ => 0) ⟨#[], #[.slice none 0 0, .int .u32 0, .int .u32 0], []⟩).memory :=
  laidMet_of_run' 8 (by kernel_rfl) (by kernel_rfl)
theorem reads (os : Os) {H : Type} (enc : TypeId × Value → H) : ∃ places, DataW.whole enc Tryd.prog ((laidWorld os).forCall (fun _ _ => 0) ⟨#[], #[.slice none 0 0, .int .u32 0, .int .u32 0], []⟩).memory Tryd.f4.params.toList Rows.crcBurstsSpec.vars false (#[.slice none 0 0, .int .u32 0, .int .u32 0] : Array Value).toList 8 = some ([.nil, .lit (.int .u32 0), .lit (.int .u32 0)], [], places) :=
  ⟨[], by kernel_rfl⟩

set_option maxRecDepth 100000 in
theorem lifted (os : Os) (started : os.Started) (H : Type) (enc : TypeId × Value → H) (F : Stop.Interp) :
    ReturnsInHanded {} Tryd.checked os 4 .any ((OpenSpec.ofChange Rows.crcBurstsSpec).preRow enc Tryd.prog Tryd.f4 Rows.crcBurstsRow.domain false Rows.crcBurstsRow.laid) (((OpenSpec.ofChange Rows.crcBurstsSpec).at F).post enc Tryd.prog Tryd.f4 false true false false) := by
  obtain ⟨places, hx⟩ := reads os enc
  refine returnsInHanded_of_row (C := Tryd.checked) (s := OpenSpec.ofChange Rows.crcBurstsSpec) own started (by kernel_rfl) Tryd.func4
    (witness_row_at (enc := enc) (C := Tryd.checked) false (laidWorld os) #[.slice none 0 0, .int .u32 0, .int .u32 0] rfl (by kernel_rfl) (by kernel_rfl) (by kernel_rfl)
      (OpenSpec.preRow_of_cond 8 hx (by kernel_rfl) (fun k hk => by cases hk) (by kernel_rfl) (laid_met os))) ?_
  intro W base args ds gs before hval hW _ _ _ hL _ _
  exact contract H enc W base args ds gs before hval hW hL

theorem said : Rows.CrcBurstsSaid :=
  OpenClaim.holds_of_cond 4 Tryd.f4 rfl rfl rfl rfl rfl rfl rfl ⟨rfl, rfl, rfl, rfl, rfl⟩ rfl rfl rfl rfl rfl (by kernel_rfl) Tryd.func4 (by kernel_rfl)
    (of_decide_eq_true (by kernel_rfl)) (by unfold Func.isWrapper; first | (rw [if_pos (by decide +kernel)]; kernel_rfl) | (rw [if_neg (by decide +kernel)]; exact ⟨rfl, rfl⟩))
    (fun os started H enc _ F => by rw [OpenClaim.pre_eq_preRow]; exact lifted os started H enc F)

theorem plain (f : FuncId) (fn : Func) (hf : Tryd.pinned.checked.prog.funcNamed "catchment/catchmentlaw07.CrcBursts" = some f) (hfn : Tryd.pinned.checked.prog.funcs[f]? = some fn) :
    false = Tryd.pinned.checked.prog.looks [] ∧ ∀ (j : Nat) t, fn.params[j]? = some t → Tryd.pinned.checked.prog.wantsStandIn t = false := by
  obtain rfl : f = 4 := Option.some.inj ((show Tryd.prog.funcNamed "catchment/catchmentlaw07.CrcBursts" = some 4 by kernel_rfl).symm.trans hf) |>.symm
  obtain rfl : fn = Tryd.f4 := (Option.some.inj (Tryd.func4.symm.trans hfn)).symm
  refine ⟨by kernel_rfl, fun j t ht => ?_⟩
  rw [Tryd.params4] at ht
  have hm := Array.mem_of_getElem? ht
  simp only [List.mem_toArray, List.mem_cons, List.not_mem_nil, or_false] at hm
  rcases hm with rfl | rfl | rfl
  · exact (show Tryd.prog.wantsStandIn 23 = false by kernel_rfl)
  · exact (show Tryd.prog.wantsStandIn 22 = false by kernel_rfl)
  · exact (show Tryd.prog.wantsStandIn 22 = false by kernel_rfl)

theorem proved : Rows.CrcBurstsCardSaid :=
  Claim7.holds_tied_plain_at .later [] _ _ _ _ said (fun _ h => by cases h) (by kernel_rfl) (fun _ h => by cases h) crcBursts_row_tie rfl ⟨rfl, rfl⟩ (by kernel_rfl) rfl plain (by kernel_rfl)
#print axioms proved
end Go.Proofs.YtjjileokdikcmaaDoor.crcBursts
