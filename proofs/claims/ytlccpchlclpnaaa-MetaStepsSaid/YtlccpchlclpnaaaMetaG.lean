/- WALKS: is a table, or a snapshot, greater than statements look at; SameSnap; meta's Now and Shape. No statement of the seat is proved here; no condition. -/
import Derived.Test.YtlccpchlclpnaaaMetaQ
import Derived.Deep.RegionHeld3
namespace Go.Proofs.Ytlccpchlclpnaaa
open Go.RowKit

def GEnd (w : World) (P : Prop) (e : Ending) (w' : World) : Prop := ∃ g, e = .returned (.bool g) ∧ (g = false → P) ∧ Below w.heap.size w w'
def SmallN (p : Sn) : Prop := p.ms.length ≤ 50 ∧ ∀ j, j < p.ms.length → (p.ms.getD j default).size ≤ 500
def SmallT (ss : List Sl) (ns : List Nl) : Prop := ss.length ≤ 60 ∧ ns.length ≤ 100 ∧ (∀ j, j < ss.length → Small (ss.getD j default).fs) ∧ ∀ j, j < ns.length → SmallN (ns.getD j default).p
set_option maxRecDepth 100000 in
set_option maxHeartbeats 1000000 in
theorem refGreatSnap (w : World) (p : Sn) (A : Option Addr) (c : Nat) (hr : Rd w w.heap.size 1 A p.ms.length c (strsV p.ms)) :
    Calls Try.prog 41 #[.agg #[.int .u64 (p.id.toNat : Int), .int .u64 (p.par.toNat : Int), .int .u64 (p.seq.toNat : Int), .int .u64 (p.off.toNat : Int), .int .u64 (p.tim.toNat : Int), .int .u32 (p.sch.toNat : Int), .slice A p.ms.length c]] w (GEnd w (SmallN p)) := by
  have hcap : p.ms.length ≤ 9223372036854775807 := by have h1 := hr.le; have h2 := hr.cap; unfold maxLen at h2; omega
  go_enter Try.func41, Try.ntmps41
  go_wp2_with fail
  have x1 := boxN_new w #[.int .u64 (p.id.toNat : Int), .int .u64 (p.par.toNat : Int), .int .u64 (p.seq.toNat : Int), .int .u64 (p.off.toNat : Int), .int .u64 (p.tim.toNat : Int), .int .u32 (p.sch.toNat : Int), .slice A p.ms.length c] 73
  have hb1 := (Below.refl w.heap.size w).alloc (Nat.le_refl _) (.cells #[.int .u64 (p.id.toNat : Int), .int .u64 (p.par.toNat : Int), .int .u64 (p.seq.toNat : Int), .int .u64 (p.off.toNat : Int), .int .u64 (p.tim.toNat : Int), .int .u32 (p.sch.toNat : Int), .slice A p.ms.length c] 73)
  generalize w.alloc (.cells #[.int .u64 (p.id.toNat : Int), .int .u64 (p.par.toNat : Int), .int .u64 (p.seq.toNat : Int), .int .u64 (p.off.toNat : Int), .int .u64 (p.tim.toNat : Int), .int .u32 (p.sch.toNat : Int), .slice A p.ms.length c] 73) = w1 at *
  have c6 := x1.cell 6 _ rfl
  have hr1 := (hr.below hb1).more hb1.size
  obtain ⟨bx, hbx⟩ : ∃ b, b = w.heap.size := ⟨_, rfl⟩
  rw [← hbx] at c6 ⊢
  have HBX := hide hbx
  clear x1 hr hbx
  generalize hms : p.ms = ms at *
  have HMS := hide hms
  clear hms
  go_loop [3] (fun iv => ∃ k : Nat, k ≤ ms.length ∧ k ≤ 50 ∧ iv = .int .i64 (k : Int) ∧ Hid (∀ j, j < k → (ms.getD j default).size ≤ 500)) (fun iv => ms.length - (intOf iv).toNat)
  case atStart => exact ⟨0, Nat.zero_le _, by omega, rfl, hide (fun j h => by omega)⟩
  case round =>
    obtain ⟨k, hk, hk50, rfl, hf⟩ := hrel
    by_cases hlt : k < ms.length
    · by_cases h50 : k < 50
      · have y2 : decide ((k : Int) < 50) = true := decide_eq_true (by omega)
        obtain ⟨b, off, rfl, hb, f0⟩ := hr1.st hlt
        by_cases h5 : 500 < (ms.getD k default).size
        · have y3 : decide ((500 : Int) < ((ms.getD k default).size : Int)) = true := decide_eq_true (by omega)
          generalize ms.getD k default = x at *
          clear h5
          go_wp2
          go_ret
          exact ⟨true, rfl, (fun h => by cases h), hb1⟩
        · have y3 : decide ((500 : Int) < ((ms.getD k default).size : Int)) = false := decide_eq_false (by omega)
          generalize hx : ms.getD k default = x at *
          have HXE := hide hx
          have HX : Hid (x.size ≤ 500) := hide (by omega)
          clear h5 hx
          go_wp2
          go_round
          case rel =>
            refine ⟨k + 1, by omega, by omega, by go_num, hide (fun j hj => ?_)⟩
            by_cases e : j = k
            · rw [e, HXE.out]; exact HX.out
            · exact hf.out j (by omega)
          case measure => simp [intOf]; omega
      · have y2 : decide ((k : Int) < 50) = false := decide_eq_false (by omega)
        have y4 : decide ((50 : Int) < (ms.length : Int)) = true := decide_eq_true (by omega)
        clear h50
        go_wp2
        go_ret
        exact ⟨true, rfl, (fun h => by cases h), hb1⟩
    · have y4 : decide ((50 : Int) < (ms.length : Int)) = false := decide_eq_false (by omega)
      have HS : Hid (SmallN p) := hide ⟨by rw [HMS.out]; omega, fun j hj => by rw [HMS.out] at hj ⊢; exact hf.out j (by omega)⟩
      go_wp2
      go_ret
      exact ⟨false, rfl, fun _ => HS.out, hb1⟩
set_option maxRecDepth 100000 in
set_option maxHeartbeats 2000000 in
theorem refGreat14 (w : World) (sA : Option Addr) (sc : Nat) (ss : List Sl) (nA : Option Addr) (nc : Nat) (ns : List Nl) (cur : Nat) (hT : TabR w w.heap.size sA sc ss nA nc ns) :
    Calls Try.prog 34 #[.agg #[.slice sA ss.length sc, .slice nA ns.length nc, .int .u64 (cur : Int)]] w (GEnd w (SmallT ss ns)) := by
  have hcap1 : ss.length ≤ 9223372036854775807 := by have h1 := hT.srow.le; have h2 := hT.srow.cap; unfold maxLen at h2; omega
  have hcap2 : ns.length ≤ 9223372036854775807 := by have h1 := hT.nrow.le; have h2 := hT.nrow.cap; unfold maxLen at h2; omega
  by_cases g1 : 60 < ss.length
  · have y1 : decide ((60 : Int) < (ss.length : Int)) = true := decide_eq_true (by omega)
    clear g1
    go_enter Try.func34, Try.ntmps34
    go_wp2_with fail
    go_ret
    exact ⟨true, rfl, (fun h => by cases h), (Below.refl _ _).alloc (Nat.le_refl _) _⟩
  have y1 : decide ((60 : Int) < (ss.length : Int)) = false := decide_eq_false (by omega)
  by_cases g2 : 100 < ns.length
  · have y2 : decide ((100 : Int) < (ns.length : Int)) = true := decide_eq_true (by omega)
    clear g1 g2
    go_enter Try.func34, Try.ntmps34
    go_wp2_with fail
    go_ret
    exact ⟨true, rfl, (fun h => by cases h), (Below.refl _ _).alloc (Nat.le_refl _) _⟩
  have y2 : decide ((100 : Int) < (ns.length : Int)) = false := decide_eq_false (by omega)
  have HG := hide (show ss.length ≤ 60 ∧ ns.length ≤ 100 by omega)
  clear g1 g2
  go_enter Try.func34, Try.ntmps34
  go_wp2_with fail
  have x1 := boxN_new w #[.slice sA ss.length sc, .slice nA ns.length nc, .int .u64 (cur : Int)] 70
  have hb1 := (Below.refl w.heap.size w).alloc (Nat.le_refl _) (.cells #[.slice sA ss.length sc, .slice nA ns.length nc, .int .u64 (cur : Int)] 70)
  generalize w.alloc (.cells #[.slice sA ss.length sc, .slice nA ns.length nc, .int .u64 (cur : Int)] 70) = w1 at *
  have hT1 := hT.later hb1
  obtain ⟨bx, hbx⟩ : ∃ b, b = w.heap.size := ⟨_, rfl⟩
  rw [← hbx] at x1 ⊢
  have HBX := hide hbx
  clear hT hbx
  go_loopw [3] (fun iv wr => ∃ k : Nat, k ≤ ss.length ∧ iv = .int .i64 (k : Int) ∧ Hid (∀ j, j < k → Small (ss.getD j default).fs) ∧ Below w1.heap.size w1 wr) (fun iv _ => ss.length - (intOf iv).toNat)
  case atStart => exact ⟨0, Nat.zero_le _, rfl, hide (fun j h => by omega), Below.refl _ _⟩
  case round =>
    obtain ⟨k, hk, rfl, hf, hbr⟩ := hrel
    have X := x1.keep hbr x1.z
    have c0 := X.cell 0 _ rfl
    have c1 := X.cell 1 _ rfl
    have hTr := hT1.later hbr
    by_cases hlt : k < ss.length
    · obtain ⟨b, off, rfl, hb, f0, f1⟩ := hTr.srow.sl hlt
      have hrd := hTr.s_at hlt
      generalize hs : ss.getD k default = s at *
      have HS := hide hs
      clear hs hTr
      go_wp2_with fail
      refine (refGreat wr s.id _ s.c s.A s.fs hrd).mono ?_
      rintro e w2 ⟨g, rfl, hsm, hb2⟩
      cases g with
      | true =>
        go_wp2_with fail
        go_ret
        exact ⟨true, rfl, (fun h => by cases h), below_call hb1 hb1.size (below_call hbr hbr.size hb2)⟩
      | false =>
        have HSM := hide (hsm rfl)
        clear hsm
        go_wp2_with fail
        go_roundw
        case rel =>
          refine ⟨k + 1, by omega, by go_num, hide (fun j hj => ?_), below_call hbr hbr.size hb2⟩
          by_cases e : j = k
          · rw [e, HS.out]; exact HSM.out
          · exact hf.out j (by omega)
        case measure => simp [intOf]; omega
    · have HF : Hid (∀ j, j < ss.length → Small (ss.getD j default).fs) := hide (fun j hj => hf.out j (by omega))
      have HB1 := hide hb1
      have z0 := hbr.size
      clear hf hk hb1
      go_wp2_with fail
      go_loopw [4] (fun iv wq => ∃ m : Nat, m ≤ ns.length ∧ iv = .int .i64 (m : Int) ∧ Hid (∀ j, j < m → SmallN (ns.getD j default).p) ∧ Below w1.heap.size w1 wq) (fun iv _ => ns.length - (intOf iv).toNat)
      case atStart => exact ⟨0, Nat.zero_le _, rfl, hide (fun j h => by omega), hbr⟩
      case round =>
        clear hbr c0 c1 X hTr z0
        rename_i wq
        obtain ⟨m, hm, rfl, hf, hbr⟩ := hrel
        have X := x1.keep hbr x1.z
        have c0 := X.cell 0 _ rfl
        have c1 := X.cell 1 _ rfl
        have hTr := hT1.later hbr
        by_cases hlt : m < ns.length
        · obtain ⟨b, off, rfl, hb, f0, f1, f2, f3, f4, f5, f6⟩ := hTr.nrow.nl hlt
          have hrd := hTr.n_at hlt
          generalize hs : ns.getD m default = s at *
          have HS := hide hs
          clear hs hTr
          go_wp2_with fail
          refine (refGreatSnap _ s.p s.A s.c hrd).mono ?_
          rintro e w2 ⟨g, rfl, hsm, hb2⟩
          cases g with
          | true =>
            go_wp2_with fail
            go_ret
            exact ⟨true, rfl, (fun h => by cases h), below_call HB1.out HB1.out.size (below_call hbr hbr.size hb2)⟩
          | false =>
            have HSM := hide (hsm rfl)
            clear hsm
            go_wp2_with fail
            go_roundw
            case rel =>
              refine ⟨m + 1, by omega, by go_num, hide (fun j hj => ?_), below_call hbr hbr.size hb2⟩
              by_cases e : j = m
              · rw [e, HS.out]; exact HSM.out
              · exact hf.out j (by omega)
            case measure => simp [intOf]; omega
        · have HN : Hid (∀ j, j < ns.length → SmallN (ns.getD j default).p) := hide (fun j hj => hf.out j (by omega))
          go_wp2_with fail
          go_ret
          exact ⟨false, rfl, (fun _ => ⟨HG.out.1, HG.out.2, HF.out, HN.out⟩), below_call HB1.out HB1.out.size hbr⟩
def snEq (p q : Sn) : Bool := ((p.id.toNat : Int) == (q.id.toNat : Int)) && (((p.par.toNat : Int) == (q.par.toNat : Int)) && (((p.seq.toNat : Int) == (q.seq.toNat : Int)) && (((p.off.toNat : Int) == (q.off.toNat : Int)) && (((p.tim.toNat : Int) == (q.tim.toNat : Int)) && (((p.sch.toNat : Int) == (q.sch.toNat : Int)) && txEq p.ms q.ms)))))
set_option maxRecDepth 100000 in
set_option maxHeartbeats 1000000 in
theorem refSameSnap (w : World) (p q : Sn) (A1 A2 : Option Addr) (c1 c2 : Nat) (hr1 : Rd w w.heap.size 1 A1 p.ms.length c1 (strsV p.ms)) (hr2 : Rd w w.heap.size 1 A2 q.ms.length c2 (strsV q.ms)) :
    Calls Try.prog 40 #[.agg #[.int .u64 (p.id.toNat : Int), .int .u64 (p.par.toNat : Int), .int .u64 (p.seq.toNat : Int), .int .u64 (p.off.toNat : Int), .int .u64 (p.tim.toNat : Int), .int .u32 (p.sch.toNat : Int), .slice A1 p.ms.length c1], .agg #[.int .u64 (q.id.toNat : Int), .int .u64 (q.par.toNat : Int), .int .u64 (q.seq.toNat : Int), .int .u64 (q.off.toNat : Int), .int .u64 (q.tim.toNat : Int), .int .u32 (q.sch.toNat : Int), .slice A2 q.ms.length c2]] w fun e w' => e = .returned (.bool (snEq p q)) ∧ Below w.heap.size w w' := by
  have HSE : Hid (snEq p q = snEq p q) := hide rfl
  obtain ⟨res, hres⟩ : ∃ res, res = snEq p q := ⟨_, rfl⟩
  rw [← hres]
  unfold snEq at hres
  have HR := hide hres
  clear hres HSE
  cases h0 : (p.id.toNat : Int) == (q.id.toNat : Int) with
  | false =>
    have HRR : Hid (res = false) := hide (by rw [HR.out, h0]; rfl)
    go_enter Try.func40, Try.ntmps40
    go_wp2_with fail
    go_ret
    exact ⟨by rw [HRR.out]; rfl, ((Below.refl _ _).alloc (Nat.le_refl _) _).alloc (by simp) _⟩
  | true =>
    cases h1 : (p.par.toNat : Int) == (q.par.toNat : Int) with
    | false =>
      have HRR : Hid (res = false) := hide (by rw [HR.out, h0, h1]; rfl)
      go_enter Try.func40, Try.ntmps40
      go_wp2_with fail
      go_ret
      exact ⟨by rw [HRR.out]; rfl, ((Below.refl _ _).alloc (Nat.le_refl _) _).alloc (by simp) _⟩
    | true =>
      cases h2 : (p.seq.toNat : Int) == (q.seq.toNat : Int) with
      | false =>
        have HRR : Hid (res = false) := hide (by rw [HR.out, h0, h1, h2]; rfl)
        go_enter Try.func40, Try.ntmps40
        go_wp2_with fail
        go_ret
        exact ⟨by rw [HRR.out]; rfl, ((Below.refl _ _).alloc (Nat.le_refl _) _).alloc (by simp) _⟩
      | true =>
        cases h3 : (p.off.toNat : Int) == (q.off.toNat : Int) with
        | false =>
          have HRR : Hid (res = false) := hide (by rw [HR.out, h0, h1, h2, h3]; rfl)
          go_enter Try.func40, Try.ntmps40
          go_wp2_with fail
          go_ret
          exact ⟨by rw [HRR.out]; rfl, ((Below.refl _ _).alloc (Nat.le_refl _) _).alloc (by simp) _⟩
        | true =>
          cases h4 : (p.tim.toNat : Int) == (q.tim.toNat : Int) with
          | false =>
            have HRR : Hid (res = false) := hide (by rw [HR.out, h0, h1, h2, h3, h4]; rfl)
            go_enter Try.func40, Try.ntmps40
            go_wp2_with fail
            go_ret
            exact ⟨by rw [HRR.out]; rfl, ((Below.refl _ _).alloc (Nat.le_refl _) _).alloc (by simp) _⟩
          | true =>
            cases h5 : (p.sch.toNat : Int) == (q.sch.toNat : Int) with
            | false =>
              have HRR : Hid (res = false) := hide (by rw [HR.out, h0, h1, h2, h3, h4, h5]; rfl)
              go_enter Try.func40, Try.ntmps40
              go_wp2_with fail
              go_ret
              exact ⟨by rw [HRR.out]; rfl, ((Below.refl _ _).alloc (Nat.le_refl _) _).alloc (by simp) _⟩
            | true =>
              have HRR : Hid (res = txEq p.ms q.ms) := hide (by rw [HR.out, h0, h1, h2, h3, h4, h5]; rfl)
              go_enter Try.func40, Try.ntmps40
              go_wp2_with fail
              have hb1 := (Below.refl w.heap.size w).alloc (Nat.le_refl _) (.cells #[.int .u64 (p.id.toNat : Int), .int .u64 (p.par.toNat : Int), .int .u64 (p.seq.toNat : Int), .int .u64 (p.off.toNat : Int), .int .u64 (p.tim.toNat : Int), .int .u32 (p.sch.toNat : Int), .slice A1 p.ms.length c1] 73)
              have hz1 : w.heap.size ≤ (w.alloc (.cells #[.int .u64 (p.id.toNat : Int), .int .u64 (p.par.toNat : Int), .int .u64 (p.seq.toNat : Int), .int .u64 (p.off.toNat : Int), .int .u64 (p.tim.toNat : Int), .int .u32 (p.sch.toNat : Int), .slice A1 p.ms.length c1] 73)).heap.size := by simp
              generalize w.alloc (.cells #[.int .u64 (p.id.toNat : Int), .int .u64 (p.par.toNat : Int), .int .u64 (p.seq.toNat : Int), .int .u64 (p.off.toNat : Int), .int .u64 (p.tim.toNat : Int), .int .u32 (p.sch.toNat : Int), .slice A1 p.ms.length c1] 73) = w1 at *
              have hb2 := hb1.alloc hz1 (.cells #[.int .u64 (q.id.toNat : Int), .int .u64 (q.par.toNat : Int), .int .u64 (q.seq.toNat : Int), .int .u64 (q.off.toNat : Int), .int .u64 (q.tim.toNat : Int), .int .u32 (q.sch.toNat : Int), .slice A2 q.ms.length c2] 73)
              generalize w1.alloc (.cells #[.int .u64 (q.id.toNat : Int), .int .u64 (q.par.toNat : Int), .int .u64 (q.seq.toNat : Int), .int .u64 (q.off.toNat : Int), .int .u64 (q.tim.toNat : Int), .int .u32 (q.sch.toNat : Int), .slice A2 q.ms.length c2] 73) = w2 at *
              refine (refTexts w2 w2.heap.size _ c1 _ c2 A1 A2 p.ms q.ms ((hr1.below hb2).more hb2.size) ((hr2.below hb2).more hb2.size) (Nat.le_refl _)).mono ?_
              rintro e w3 ⟨rfl, hb3⟩
              rw [← HRR.out]
              clear h0 h1 h2 h3 h4 h5
              go_wp2_with fail
              go_ret
              exact ⟨rfl, below_call hb2 hb2.size hb3⟩
def nowIx (ns : List Nl) (cur : UInt64) : Int := if cur.toNat = 0 then -1 else sIx ns cur
set_option maxRecDepth 100000 in
set_option maxHeartbeats 1000000 in
theorem metaNow (w : World) (sA : Option Addr) (sc : Nat) (ss : List Sl) (nA : Option Addr) (nc : Nat) (ns : List Nl) (cur : UInt64) (hT : TabR w w.heap.size sA sc ss nA nc ns) (hmax : ns.length ≤ 1000000) (hm : ∀ s ∈ ns, s.p.ms.length ≤ 1000000) :
    Calls Try.prog 35 #[.agg #[.slice sA ss.length sc, .slice nA ns.length nc, .int .u64 (cur.toNat : Int)]] w (SnapEnd w ns (nowIx ns cur)) := by
  by_cases h0 : cur.toNat = 0
  · have t1 : ((cur.toNat : Int) == 0) = true := by rw [h0]; rfl
    have HS : Hid (nowIx ns cur = -1) := hide (by unfold nowIx; rw [if_pos h0])
    clear h0
    go_enter Try.func35, Try.ntmps35
    go_wp2_with fail
    (try simp only [Exit.inBlock, Exit.then])
    have hb1 := (Below.refl w.heap.size w).alloc (Nat.le_refl _) (.cells #[.slice sA ss.length sc, .slice nA ns.length nc, .int .u64 (cur.toNat : Int)] 70)
    have hz1 : (w.alloc (.cells #[.slice sA ss.length sc, .slice nA ns.length nc, .int .u64 (cur.toNat : Int)] 70)).heap.size = w.heap.size + 1 := by simp
    generalize w.alloc (.cells #[.slice sA ss.length sc, .slice nA ns.length nc, .int .u64 (cur.toNat : Int)] 70) = w1 at *
    have x2 := boxN_new w1 #[.int .u64 0, .int .u64 0, .int .u64 0, .int .u64 0, .int .u64 0, .int .u32 0, .slice none 0 0] 73
    have hb2 := hb1.alloc hb1.size (.cells #[.int .u64 0, .int .u64 0, .int .u64 0, .int .u64 0, .int .u64 0, .int .u32 0, .slice none 0 0] 73)
    rw [← hz1]
    refine bodyPost_ret (ret_sn2 (b := w1.heap.size) rfl _ _ rfl x2) rfl ?_
    rw [HS.out]
    exact ⟨none, 0, rfl, World.ownsRow_nil _ _ _ _, hb2⟩
  · have t1 : ((cur.toNat : Int) == 0) = false := by rw [beq_eq_false_iff_ne]; omega
    have HS : Hid (nowIx ns cur = sIx ns cur) := hide (by unfold nowIx; rw [if_neg h0])
    clear h0
    go_enter Try.func35, Try.ntmps35
    go_wp2_with fail
    have hb1 := (Below.refl w.heap.size w).alloc (Nat.le_refl _) (.cells #[.slice sA ss.length sc, .slice nA ns.length nc, .int .u64 (cur.toNat : Int)] 70)
    have hz1 : (w.alloc (.cells #[.slice sA ss.length sc, .slice nA ns.length nc, .int .u64 (cur.toNat : Int)] 70)).heap.size = w.heap.size + 1 := by simp
    generalize w.alloc (.cells #[.slice sA ss.length sc, .slice nA ns.length nc, .int .u64 (cur.toNat : Int)] 70) = w1 at *
    have x2 := boxN_new w1 #[.int .u64 0, .int .u64 0, .int .u64 0, .int .u64 0, .int .u64 0, .int .u32 0, .slice none 0 0] 73
    have hb2 := hb1.alloc hb1.size (.cells #[.int .u64 0, .int .u64 0, .int .u64 0, .int .u64 0, .int .u64 0, .int .u32 0, .slice none 0 0] 73)
    generalize w1.alloc (.cells #[.int .u64 0, .int .u64 0, .int .u64 0, .int .u64 0, .int .u64 0, .int .u32 0, .slice none 0 0] 73) = w2 at *
    rw [← hz1]
    have hw1 : w.heap.size ≤ w1.heap.size := by omega
    generalize w1.heap.size = b2 at *
    have hT2 := hT.later hb2
    clear hT hz1 hb1
    refine (metaSnap w2 sA sc ss nA nc ns cur.toNat hT2 hmax hm cur).mono ?_
    rintro e w3 ⟨A3, c3, rfl, hown3, hb3⟩
    obtain ⟨i, hi⟩ : ∃ i, i = sIx ns cur := ⟨_, rfl⟩
    rw [← hi] at hown3 ⊢
    have HI := hide hi
    have X3 := x2.keep hb3 x2.z
    have g0 := X3.cell 0 _ rfl
    have k0 := X3.free 0 (by simp)
    have g1 := X3.cell 1 _ rfl
    have k1 := X3.free 1 (by simp)
    have g2 := X3.cell 2 _ rfl
    have k2 := X3.free 2 (by simp)
    have g3 := X3.cell 3 _ rfl
    have k3 := X3.free 3 (by simp)
    have g4 := X3.cell 4 _ rfl
    have k4 := X3.free 4 (by simp)
    have g5 := X3.cell 5 _ rfl
    have k5 := X3.free 5 (by simp)
    have g6 := X3.cell 6 _ rfl
    have k6 := X3.free 6 (by simp)
    have hB3 := below_call hb2 hb2.size hb3
    have HX := hide X3
    clear hi X3 hb3 hb2 hT2
    obtain ⟨db, hdb⟩ : ∃ db, db = decide (0 ≤ i) := ⟨_, rfl⟩
    rw [← hdb]
    have HDB := hide hdb
    generalize hq : snAt ns i = q at *
    have HQ := hide hq
    have HO := hide hown3
    have hz2 : b2 < w2.heap.size := x2.z
    have hw2 : w.heap.size ≤ w2.heap.size := by omega
    clear hq hdb hown3 x2
    go_wp2_with fail
    (try simp only [Exit.inBlock, Exit.then])
    refine bodyPost_ret (ret_sn2 (b := b2) rfl _ _ rfl HX.out.set7) rfl ?_
    rw [HS.out, ← HI.out]
    refine ⟨A3, c3, ?_, ?_, below_set7 hB3 hw1⟩
    · rw [HQ.out, HDB.out]; rfl
    · rw [HQ.out]; exact own_base (own_set7 HO.out hz2) hw2
end Go.Proofs.Ytlccpchlclpnaaa
