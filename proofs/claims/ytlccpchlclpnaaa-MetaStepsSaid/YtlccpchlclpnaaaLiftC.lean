/- WALKS of values as cells, of the document's Lift, of two rows the same. No statement of the seat is proved here; no condition. -/
import Derived.Test.YtlccpchlclpnaaaRFit
namespace Go.Proofs.Ytlccpchlclpnaaa
open Go.RowKit

def cellOf : Vl → Cl
  | .none => ⟨0, 0, ⟨#[]⟩⟩
  | .whole n => ⟨1, n, ⟨#[]⟩⟩
  | .truth b => ⟨2, if b then 1 else 0, ⟨#[]⟩⟩
  | .text s => ⟨3, 0, s⟩
set_option maxRecDepth 100000 in
set_option maxHeartbeats 4000000 in
theorem lawCell (w : World) (v : Vl) : Calls Try.prog 64 #[vlV v] w fun e w' => e = .returned (.agg #[.int .u8 ((cellOf v).kind.toNat : Int), .int .i64 (cellOf v).n, .string (cellOf v).s]) ∧ Below w.heap.size w w' := by
  have x1 := box_new w #[.int .u8 0, .int .i64 0, .string ⟨#[]⟩] 109
  have q0 := x1.cell 0 _ rfl
  have q1 := x1.cell 1 _ rfl
  have q2 := x1.cell 2 _ rfl
  have g0 := x1.free 0
  have g1 := x1.free 1
  have g2 := x1.free 2
  have hB := x1.below
  have h1 := ta_int v
  have h2 := ta_bool v
  have h3 := ta_str v
  obtain ⟨W, hW⟩ : ∃ W, W = w.alloc (.cells #[.int .u8 0, .int .i64 0, .string ⟨#[]⟩] 109) := ⟨_, rfl⟩
  cases v with
  | truth b =>
    simp only [vlV] at *
    cases b
    · go_enter Try.func64, Try.ntmps64
      go_wp2_with fail
      (try simp only [Exit.inBlock, Exit.then])
      have y := box_new w #[.int .u8 2, .int .i64 0, .string ⟨#[]⟩] 109
      refine bodyPost_ret (ret_cl (b := w.heap.size) rfl _ _ rfl (y.cell 0 _ rfl) (y.cell 1 _ rfl) (y.cell 2 _ rfl)) rfl ?_
      exact ⟨rfl, y.below⟩
    · go_enter Try.func64, Try.ntmps64
      go_wp2_with fail
      (try simp only [Exit.inBlock, Exit.then])
      have y := box_new w #[.int .u8 2, .int .i64 1, .string ⟨#[]⟩] 109
      refine bodyPost_ret (ret_cl (b := w.heap.size) rfl _ _ rfl (y.cell 0 _ rfl) (y.cell 1 _ rfl) (y.cell 2 _ rfl)) rfl ?_
      exact ⟨rfl, y.below⟩
  | none =>
    simp only [vlV] at *
    go_enter Try.func64, Try.ntmps64
    go_wp2_with fail
    (try simp only [Exit.inBlock, Exit.then])
    have y := box_new w #[.int .u8 0, .int .i64 0, .string ⟨#[]⟩] 109
    refine bodyPost_ret (ret_cl (b := w.heap.size) rfl _ _ rfl (y.cell 0 _ rfl) (y.cell 1 _ rfl) (y.cell 2 _ rfl)) rfl ?_
    exact ⟨rfl, y.below⟩
  | whole n =>
    simp only [vlV] at *
    go_enter Try.func64, Try.ntmps64
    go_wp2_with fail
    (try simp only [Exit.inBlock, Exit.then])
    have y := box_new w #[.int .u8 1, .int .i64 n, .string ⟨#[]⟩] 109
    refine bodyPost_ret (ret_cl (b := w.heap.size) rfl _ _ rfl (y.cell 0 _ rfl) (y.cell 1 _ rfl) (y.cell 2 _ rfl)) rfl ?_
    exact ⟨rfl, y.below⟩
  | text s =>
    simp only [vlV] at *
    go_enter Try.func64, Try.ntmps64
    go_wp2_with fail
    (try simp only [Exit.inBlock, Exit.then])
    have y := box_new w #[.int .u8 3, .int .i64 0, .string s] 109
    refine bodyPost_ret (ret_cl (b := w.heap.size) rfl _ _ rfl (y.cell 0 _ rfl) (y.cell 1 _ rfl) (y.cell 2 _ rfl)) rfl ?_
    exact ⟨rfl, y.below⟩

set_option maxRecDepth 100000 in
set_option maxHeartbeats 2000000 in
theorem lawCells (w : World) (B n c : Nat) (A : Option Addr) (l : List Vl) (hr : Rd w B 1 A n c (vlsV l)) (hB : B ≤ w.heap.size) (hmax : l.length ≤ 1000000) :
    Calls Try.prog 25 #[.slice A n c] w (RetRow w 109 3 l.length (clsV (l.map cellOf))) := by
  obtain rfl := hr.lenV
  have hr := hr.more hB
  clear hB
  go_enter Try.func25, Try.ntmps25
  go_wp2_with fail
  go_loopw [3, 4] (fun ov iv wr => ∃ k : Nat, k ≤ l.length ∧ iv = .int .i64 (k : Int) ∧ wr.ownsRow w.heap.size 109 3 ov k (clsV ((l.take k).map cellOf)) ∧ Below w.heap.size w wr) (fun _ iv _ => l.length - (intOf iv).toNat)
  case atStart => exact ⟨0, Nat.zero_le _, rfl, World.ownsRow_nil _ _ _ _, Below.refl _ _⟩
  case round =>
    obtain ⟨k, hk, rfl, hown, hbr⟩ := hrel
    by_cases hlt : k < l.length
    · obtain ⟨b, off, rfl, hb, v0⟩ := (hr.below hbr).vl hlt
      have hstep := take_succ_getD l k hlt
      generalize hcc : l.getD k default = v at *
      have HS := hide hstep
      clear hstep hcc
      have hcell := lawCell wr v
      have hvv : clsV ((l.take (k + 1)).map cellOf) = clsV ((l.take k).map cellOf) ++ clV (cellOf v) := by rw [HS.out]; simp [clsV]
      have HVV := hide hvv
      clear hvv
      have h1v := one_cl (cellOf v)
      generalize cellOf v = fc at *
      cases v <;> simp only [vlV] at v0 hcell
      all_goals
        go_wp2_with fail
        refine hcell.mono ?_
        rintro e w2 ⟨rfl, hb2⟩
        have hown2 := own_below hown hb2
        have hbr2 : Below w.heap.size w w2 := below_call hbr hbr.size hb2
        have hsz := hbr2.size
        clear hown hbr hb2 v0 hcell
        go_wp2_with (at_builtin; refine wpList_app _ tyCells rfl (.tmp 11) (.tmp 17) rfl w.heap.size _ _ _ rfl (hown2.alloc _) (w2.heap.size + 1) _ 1 1 _ rfl (Rd.lit w2 109 _ rfl (by decide)) h1v (by omega) (by simp; omega) ?_; intro v3 w3 hown3 hg3 _; have hb3 := below_app (hbr2.alloc hsz _) (Nat.le_refl _) (hown2.alloc _) hg3 (by simp; omega); clear hg3 hown2 hbr2)
        go_roundw
        case rel => exact ⟨k + 1, hlt, by go_num, by rw [HVV.out]; exact hown3, hb3⟩
        case measure => exact meas_sub k _ hlt
    · obtain rfl : k = l.length := by omega
      rw [List.take_of_length_le (Nat.le_refl _)] at hown
      have HO := hide hown
      clear hown
      go_wp2_with fail
      go_ret
      exact ⟨_, rfl, HO.out, hbr⟩

theorem neq_cl (c : Cl) (w : World) : (binOp .neq 109 (.agg #[.int .u8 (c.kind.toNat : Int), .int .i64 c.n, .string c.s]) (.agg #[.int .u8 (c.kind.toNat : Int), .int .i64 c.n, .string c.s])).run Try.prog w = .ok (.bool false) w := by
  rw [run_neq_struct]
  go_simp
set_option maxRecDepth 100000 in
set_option maxHeartbeats 1000000 in
theorem refSameRow (w : World) (n1 c1 n2 c2 : Nat) (A1 A2 : Option Addr) (l : List Cl) (hr1 : Rd w w.heap.size 3 A1 n1 c1 (clsV l)) (hr2 : Rd w w.heap.size 3 A2 n2 c2 (clsV l)) :
    Calls Try.prog 24 #[.slice A1 n1 c1, .slice A2 n2 c2] w fun e w' => e = .returned (.bool true) ∧ Below w.heap.size w w' := by
  obtain rfl := hr1.lenC
  obtain rfl := hr2.lenC
  have hmax : l.length ≤ 9223372036854775807 := by have h1 := hr1.le; have h2 := hr1.cap; unfold maxLen at h2; omega
  go_enter Try.func24, Try.ntmps24
  go_wp2_with fail
  go_loopw [5] (fun iv wr => ∃ k : Nat, k ≤ l.length ∧ iv = .int .i64 (k : Int) ∧ Below w.heap.size w wr) (fun iv _ => l.length - (intOf iv).toNat)
  case atStart => exact ⟨0, Nat.zero_le _, rfl, Below.refl _ _⟩
  case round =>
    obtain ⟨k, hk, rfl, hbr⟩ := hrel
    by_cases hlt : k < l.length
    · obtain ⟨b1, o1, rfl, _, p0, p1, p2⟩ := (hr1.below hbr).cl hlt
      obtain ⟨b2, o2, rfl, _, q0, q1, q2⟩ := (hr2.below hbr).cl hlt
      generalize l.getD k default = c at *
      have hne := neq_cl c
      go_wp2_with fail
      go_quiet (fail)
      go_wp2_with fail
      go_roundw
      case rel => exact ⟨k + 1, hlt, by go_num, below_dN hbr _⟩
      case measure => exact meas_sub k _ hlt
    · obtain rfl : k = l.length := by omega
      go_wp2_with fail
      go_ret
      exact ⟨rfl, hbr⟩

def rlAt (fr : List Fd) (row : List Cl) (f : Fd) : Cl := if 0 ≤ placeOf f.id.toNat fr ∧ placeOf f.id.toNat fr < (row.length : Int) then row.getD (placeOf f.id.toNat fr).toNat default else default
set_option maxRecDepth 100000 in
set_option maxHeartbeats 2000000 in
theorem refLift (w : World) (id1 id2 : UInt32) (n1 c1 n2 c2 m d : Nat) (A1 A2 B : Option Addr) (fr to : List Fd) (row : List Cl)
    (hr1 : Rd w w.heap.size 4 A1 n1 c1 (fdsV fr)) (hr2 : Rd w w.heap.size 4 A2 n2 c2 (fdsV to)) (hv : Rd w w.heap.size 3 B m d (clsV row)) (hm1 : fr.length ≤ 1000000) (hm2 : to.length ≤ 1000000) :
    Calls Try.prog 27 #[.agg #[.int .u32 (id1.toNat : Int), .slice A1 n1 c1], .agg #[.int .u32 (id2.toNat : Int), .slice A2 n2 c2], .slice B m d] w (RetRow w 109 3 to.length (clsV (to.map (rlAt fr row)))) := by
  obtain rfl := hr1.lenF
  obtain rfl := hr2.lenF
  obtain rfl := hv.lenC
  go_enter Try.func27, Try.ntmps27
  go_wp2_with fail
  have x1 := box_new w #[.int .u32 (id1.toNat : Int), .slice A1 fr.length c1] 25
  generalize hwa : w.alloc (.cells #[.int .u32 (id1.toNat : Int), .slice A1 fr.length c1] 25) = wa at *
  have x2 := box_new wa #[.int .u32 (id2.toNat : Int), .slice A2 to.length c2] 25
  generalize hwb : wa.alloc (.cells #[.int .u32 (id2.toNat : Int), .slice A2 to.length c2] 25) = w2 at *
  have za := x1.size
  have zb := x2.size
  obtain ⟨cs, _, zs, hb2⟩ := x1.lift x2.below
  obtain ⟨cn, _, zn, _⟩ := x2.lift (Below.refl _ _)
  have s0 : w2.cell? ⟨w.heap.size, 0, none⟩ = some (.int .u32 (id1.toNat : Int)) := cs 0 _ rfl
  have s1 : w2.cell? ⟨w.heap.size, 1, none⟩ = some (.slice A1 fr.length c1) := cs 1 _ rfl
  have n1 : w2.cell? ⟨w.heap.size + 1, 1, none⟩ = some (.slice A2 to.length c2) := by rw [show w.heap.size + 1 = wa.heap.size by omega]; exact cn 1 _ rfl
  have zn' : w.heap.size + 1 < w2.heap.size := by omega
  have hq1 := (hr1.below hb2).more hb2.size
  have hq2 := (hr2.below hb2).more hb2.size
  have hqv := (hv.below hb2).more hb2.size
  have hbase : w.heap.size ≤ w2.heap.size := by omega
  obtain ⟨ba, hba⟩ : ∃ ba, ba = w.heap.size := ⟨_, rfl⟩
  obtain ⟨bb, hbb⟩ : ∃ bb, bb = w.heap.size + 1 := ⟨_, rfl⟩
  rw [← hbb] at n1 zn' ⊢
  rw [← hba] at s0 s1 zs hb2 hbase ⊢
  have HBA := hide hba
  clear hwa hwb cs cn x1 x2 zn za zb hba hbb hr1 hr2 hv
  go_loopw [7, 8, 9] (fun ov iv _ wr => ∃ k : Nat, k ≤ to.length ∧ iv = .int .i64 (k : Int) ∧ wr.ownsRow w2.heap.size 109 3 ov k (clsV ((to.take k).map (rlAt fr row))) ∧ Below w2.heap.size w2 wr) (fun _ iv _ _ => to.length - (intOf iv).toNat)
  case atStart => exact ⟨0, Nat.zero_le _, rfl, World.ownsRow_nil _ _ _ _, Below.refl _ _⟩
  case round =>
    obtain ⟨k, hk, rfl, hown, hbr⟩ := hrel
    have cba0 := (hbr.cell (p := ⟨ba, 0, none⟩) zs).trans s0
    have cba1 := (hbr.cell (p := ⟨ba, 1, none⟩) zs).trans s1
    have cbb1 := (hbr.cell (p := ⟨bb, 1, none⟩) zn').trans n1
    by_cases hlt : k < to.length
    · obtain ⟨b, off, rfl, hb, f0, _, _, _⟩ := (hq2.below hbr).fd hlt
      have hstep := take_succ_getD to k hlt
      have hrl : rlAt fr row (to.getD k default) = if 0 ≤ placeOf (to.getD k default).id.toNat fr ∧ placeOf (to.getD k default).id.toNat fr < (row.length : Int) then row.getD (placeOf (to.getD k default).id.toNat fr).toNat default else default := rfl
      have hvv : clsV ((to.take (k + 1)).map (rlAt fr row)) = clsV ((to.take k).map (rlAt fr row)) ++ clV (rlAt fr row (to.getD k default)) := by rw [hstep]; simp [clsV]
      generalize rlAt fr row (to.getD k default) = rc at *
      generalize (to.getD k default).id.toNat = fi at *
      have hPb := idxF_lt (fun g => (g.id.toNat : Int) == (fi : Int)) fr
      obtain ⟨p, hp⟩ : ∃ p, p = placeOf fi fr := ⟨_, rfl⟩
      have hPP : placeOf fi fr = idxF (fun g => (g.id.toNat : Int) == (fi : Int)) fr := rfl
      rw [← hPP, ← hp] at hPb
      rw [← hp] at hrl
      have HP := hide hp.symm
      have HVV := hide hvv
      have HRL := hide hrl
      have hq1r := hq1.below hbr
      have hsz := hbr.size
      have zba : ba < wr.drew.heap.size := Nat.lt_of_lt_of_le zs hsz
      have zbb : bb < wr.drew.heap.size := Nat.lt_of_lt_of_le zn' hsz
      have zfb : b < wr.drew.heap.size := Nat.lt_of_lt_of_le hb hsz
      clear hstep hvv hrl hp hPP
      go_wp2_with fail
      refine wp_region_abs ext_grow (by kernel_rfl) (by kernel_rfl) ?_
      simp only [List.map_cons, List.map_nil]
      refine wpA_value ext_grow ?_ (fun _ _ h => by cases h) rfl rfl ?_ ?_
      rotate_left 1
      · intro w' hw' C hC
        have q1 := (hw'.cell (p := ⟨ba, 0, none⟩) zba).trans cba0
        have q2 := (hw'.cell (p := ⟨ba, 1, none⟩) zba).trans cba1
        go_simp
        try go_bits
        exact hC
      simp only [putS, List.set_cons_succ, List.set_cons_zero]
      refine wpA_value ext_grow ?_ (fun _ _ h => by cases h) rfl rfl ?_ ?_
      rotate_left 1
      · intro w' hw' C hC
        go_simp
        try go_bits
        exact hC
      simp only [putS, List.set_cons_succ, List.set_cons_zero]
      refine wpA_value ext_grow ?_ (fun _ _ h => by cases h) rfl rfl ?_ ?_
      rotate_left 1
      · intro w' hw' C hC
        have q2 := (hw'.cell (p := ⟨bb, 1, none⟩) zbb).trans cbb1
        go_simp
        try go_bits
        exact hC
      simp only [putS, List.set_cons_succ, List.set_cons_zero]
      refine wpA_value ext_grow ?_ (fun _ _ h => by cases h) rfl rfl ?_ ?_
      rotate_left 1
      · intro w' hw' C hC
        go_simp
        try go_bits
        exact hC
      simp only [putS, List.set_cons_succ, List.set_cons_zero]
      refine wpA_value ext_grow ?_ (fun _ _ h => by cases h) rfl rfl ?_ ?_
      rotate_left 1
      · intro w' hw' C hC
        have q := hlt
        go_simp
        try go_bits
        exact hC
      simp only [putS, List.set_cons_succ, List.set_cons_zero]
      refine wpA_value ext_grow ?_ (fun _ _ h => by cases h) rfl rfl ?_ ?_
      rotate_left 1
      · intro w' hw' C hC
        go_simp
        try go_bits
        exact hC
      simp only [putS, List.set_cons_succ, List.set_cons_zero]
      refine wpA_value ext_grow ?_ (fun _ _ h => by cases h) rfl rfl ?_ ?_
      rotate_left 1
      · intro w' hw' C hC
        have q2 := (hw'.cell (p := ⟨b, off + k * 4, none⟩) zfb).trans f0
        go_simp
        try go_bits
        exact hC
      simp only [putS, List.set_cons_succ, List.set_cons_zero]
      refine wpA_known (.is (.int .i64 p)) (fun _ _ h => by cases h) rfl rfl (mono_is _) (fun w' hw' => ?_) ?_
      · go_simp
        exact ⟨Below.refl _ _, (refPlace w' id1 _ c1 A1 fr ((hq1r.keep fun q hq => hw'.cell (Nat.lt_of_lt_of_le hq hsz)).more (Nat.le_trans hsz hw'.size)) hm1 fi).mono fun e w'' h => is_ret (by rw [h.1, HP.out]) h.2⟩
      simp only [putS, List.set_cons_succ, List.set_cons_zero]
      refine wpA_value ext_grow ?_ (fun _ _ h => by cases h) rfl rfl ?_ ?_
      rotate_left 1
      · intro w' hw' C hC
        go_simp
        try go_bits
        exact hC
      simp only [putS, List.set_cons_succ, List.set_cons_zero]
      intro w3 hw3
      simp only [openS]
      have hw3' : Below wr.heap.size wr w3 := below_of_drew hw3
      have hown3 := own_below hown hw3'
      have hb3 : Below w2.heap.size w2 w3 := below_call hbr hsz hw3'
      have hv3 := hqv.below hb3
      have hsz3 := hb3.size
      clear hw3 hw3' hown hbr hq1r zba zbb zfb cba0 cba1 cbb1 f0
      by_cases hp0 : p < 0
      · have hrc : rc = default := by rw [HRL.out, if_neg (fun h => by omega)]
        subst hrc
        have y1 : decide (p < 0) = true := decide_eq_true hp0
        clear HRL
        go_wp2_with (at_builtin; refine wpList_app _ tyCells rfl (.tmp 33) (.tmp 35) rfl w2.heap.size _ _ _ rfl (hown3.alloc _) (w3.heap.size + 1) _ 1 1 _ rfl (Rd.lit w3 109 _ rfl (by decide)) (one_cl default) (by omega) (by simp; omega) ?_; intro v4 w4 hown4 hg4 _; have hb4 := below_app (hb3.alloc hsz3 _) (Nat.le_refl _) (hown3.alloc _) hg4 (by simp; omega); clear hg4 hown3 hb3)
        go_roundw
        case rel => exact ⟨k + 1, hlt, by go_num, by rw [HVV.out]; exact hown4, hb4⟩
        case measure => exact meas_sub k _ hlt
      · have y1 : decide (p < 0) = false := decide_eq_false hp0
        obtain ⟨q, rfl⟩ := Int.eq_ofNat_of_zero_le (show 0 ≤ p by omega)
        by_cases hq : q < row.length
        · have y2 : decide ((row.length : Int) ≤ (q : Int)) = false := decide_eq_false (by omega)
          have hrc : rc = row.getD q default := by rw [HRL.out, if_pos ⟨by omega, by omega⟩, Int.toNat_natCast]
          subst hrc
          obtain ⟨rb, roff, rfl, hrb, v0, v1, v2⟩ := hv3.cl hq
          generalize row.getD q default = rc at *
          clear HRL
          have h1v := one_cl rc
          go_wp2_with (at_builtin; refine wpList_app _ tyCells rfl (.tmp 37) (.tmp 42) rfl w2.heap.size _ _ _ rfl (hown3.alloc _) (w3.heap.size + 1) _ 1 1 _ rfl (Rd.lit w3 109 _ rfl (by decide)) h1v (by omega) (by simp; omega) ?_; intro v4 w4 hown4 hg4 _; have hb4 := below_app (hb3.alloc hsz3 _) (Nat.le_refl _) (hown3.alloc _) hg4 (by simp; omega); clear hg4 hown3 hb3)
          go_roundw
          case rel => exact ⟨k + 1, hlt, by go_num, by rw [HVV.out]; exact hown4, hb4⟩
          case measure => exact meas_sub k _ hlt
        · have y2 : decide ((row.length : Int) ≤ (q : Int)) = true := decide_eq_true (by omega)
          have hrc : rc = default := by rw [HRL.out, if_neg (fun h => by omega)]
          subst hrc
          clear HRL
          go_wp2_with (at_builtin; refine wpList_app _ tyCells rfl (.tmp 33) (.tmp 35) rfl w2.heap.size _ _ _ rfl (hown3.alloc _) (w3.heap.size + 1) _ 1 1 _ rfl (Rd.lit w3 109 _ rfl (by decide)) (one_cl default) (by omega) (by simp; omega) ?_; intro v4 w4 hown4 hg4 _; have hb4 := below_app (hb3.alloc hsz3 _) (Nat.le_refl _) (hown3.alloc _) hg4 (by simp; omega); clear hg4 hown3 hb3)
          go_roundw
          case rel => exact ⟨k + 1, hlt, by go_num, by rw [HVV.out]; exact hown4, hb4⟩
          case measure => exact meas_sub k _ hlt
    · obtain rfl : k = to.length := by omega
      rw [List.take_of_length_le (Nat.le_refl _)] at hown
      have HO := hide hown
      clear hown
      go_wp2_with fail
      go_ret
      refine ⟨_, rfl, own_base HO.out (by rw [← HBA.out]; exact hbase), ?_⟩
      rw [← HBA.out]
      exact below_call hb2 hbase hbr

/-! ### a cell made fit, a value, a cell again -/
theorem ba_empty (s : ByteArray) (h : s.size = 0) : s = ⟨#[]⟩ := by
  cases s with
  | mk d =>
    have hd : d.size = 0 := h
    rw [Array.eq_empty_of_size_eq_zero hd]
theorem fixC_n (c : Cl) : ((fixC c).kind.toNat ≠ 1 → (fixC c).kind.toNat ≠ 2 → (fixC c).n = 0) ∧ ((fixC c).kind.toNat = 2 → (fixC c).n = 0 ∨ (fixC c).n = 1) := by
  by_cases hc : cellErr c = 0
  · have e : fixC c = c := by unfold fixC; rw [if_pos hc]
    rw [e]
    unfold cellErr at hc
    split at hc
    · omega
    · split at hc
      · omega
      · next h1 =>
        refine ⟨fun a b => ?_, fun a => ?_⟩
        · exact Decidable.byContradiction fun q => h1 (.inr (.inl ⟨a, b, q⟩))
        · exact Decidable.byContradiction fun q => h1 (.inr (.inr ⟨a, fun r => q (.inl r), fun r => q (.inr r)⟩))
  · have e : fixC c = ⟨0, 0, ⟨#[]⟩⟩ := by unfold fixC; rw [if_neg hc]
    rw [e]
    exact ⟨fun _ _ => rfl, fun h => absurd h (by decide)⟩
theorem cell_back (c : Cl) : cellOf (valOf c) = fixC c := by
  have hs := fixC_s c
  have hn := fixC_n c
  unfold valOf
  obtain ⟨d, hd⟩ : ∃ d, d = fixC c := ⟨_, rfl⟩
  have hk := fixC_kind c
  rw [← hd] at hs hn hk ⊢
  obtain ⟨kk, nn, ss⟩ := d
  simp only at *
  have hkk : ∀ m : Nat, m < 256 → kk.toNat = m → kk = UInt8.ofNat m := fun m hm h => UInt8.toNat_inj.1 (by rw [h, ofNat8 hm])
  rcases hk with h | h | h | h
  · have h1 := hn.1 (by omega) (by omega)
    have h2 := ba_empty ss (hs (by omega))
    have h3 := hkk 0 (by decide) h
    subst h1 h2 h3
    rfl
  · have h2 := ba_empty ss (hs (by omega))
    have h3 := hkk 1 (by decide) h
    subst h2 h3
    rfl
  · have h1 := hn.2 h
    have h2 := ba_empty ss (hs (by omega))
    have h3 := hkk 2 (by decide) h
    subst h2 h3
    rcases h1 with rfl | rfl <;> rfl
  · have h1 := hn.1 (by omega) (by omega)
    have h3 := hkk 3 (by decide) h
    subst h1 h3
    rfl
theorem lift_same (fr to : List Fd) (cl : List Cl) : (liftRow fr to (cl.map valOf)).map cellOf = to.map (rlAt fr (cl.map fixC)) := by
  unfold liftRow
  rw [List.map_map]
  refine List.map_congr_left fun f _ => ?_
  simp only [Function.comp]
  unfold liftAt rlAt
  rw [List.length_map, List.length_map]
  generalize placeOf f.id.toNat fr = p
  split
  · next h =>
    obtain ⟨q, rfl⟩ := Int.eq_ofNat_of_zero_le h.1
    have hq : q < cl.length := by omega
    rw [Int.toNat_natCast]
    simp only [List.getD, List.getElem?_map, List.getElem?_eq_getElem hq, Option.map_some, Option.getD_some]
    exact cell_back _
  · rfl
end Go.Proofs.Ytlccpchlclpnaaa
