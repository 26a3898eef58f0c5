/- WALKS: IndexFunc at snapshots and at schemas, Clone at texts, the closures; meta's own, Snap, Shape, Now; the document's Snap and Shape. No statement of the seat is proved here; no condition. -/
import Derived.Test.YtlccpchlclpnaaaMeta
import Derived.Test.YtlccpchlclpnaaaAbs
namespace Go.Proofs.Ytlccpchlclpnaaa
open Go.RowKit

/-- what a closure gives, whatever was laid meanwhile -/
def PredN (w : World) (g : Nat) (lb : Array Value) (p : Nl → Bool) : Prop :=
  ∀ (W : World) (f : Nl), Below w.heap.size w W → Calls Try.prog g (#[.agg #[.int .u64 (f.p.id.toNat : Int), .int .u64 (f.p.par.toNat : Int), .int .u64 (f.p.seq.toNat : Int), .int .u64 (f.p.off.toNat : Int), .int .u64 (f.p.tim.toNat : Int), .int .u32 (f.p.sch.toNat : Int), .slice f.A f.p.ms.length f.c]] ++ lb) W fun e w' => e = .returned (.bool (p f)) ∧ Below w.heap.size w w'
set_option maxRecDepth 100000 in
set_option maxHeartbeats 1000000 in
theorem indexN (w : World) (n c : Nat) (A : Option Addr) (l : List Nl) (hr : Rd w w.heap.size 7 A n c (nlsV l)) (hmax : l.length ≤ 1000000) (g : Nat) (lb : Array Value) (p : Nl → Bool)
    (eg : ∀ args w, (callFunc g args).run Try.prog w = .ok (.enter g args) w) (hp : PredN w g lb p) :
    Calls Try.prog 71 #[.slice A n c, .func (.func g) #[] lb] w fun e w' => e = .returned (.int .i64 (ixA p l)) ∧ Below w.heap.size w w' := by
  obtain rfl := hr.lenN
  go_enter Try.func71, Try.ntmps71
  go_wp2_with fail
  go_loopw [5, 8] (fun _ kv wr => ∃ k : Nat, k ≤ l.length ∧ kv = .int .i64 (k : Int) ∧ Hid (∀ j, j < k → p (l.getD j default) = false) ∧ Hid (Below w.heap.size w wr)) (fun _ kv _ => l.length - (intOf kv).toNat)
  case atStart => exact ⟨0, Nat.zero_le _, rfl, hide (fun j h => by omega), hide (Below.refl _ _)⟩
  case round =>
    obtain ⟨k, hk, rfl, hf, hbr⟩ := hrel
    by_cases hlt : k < l.length
    · obtain ⟨b, off, rfl, hb, f0, f1, f2, f3, f4, f5, f6⟩ := (hr.below hbr.out).nl hlt
      have hcall := hp wr (l.getD k default) hbr.out
      generalize hff : l.getD k default = f at *
      have HF := hide hff
      clear hff hp
      cases hq : p f with
      | true =>
        rw [hq] at hcall
        have HQ := hide hq
        clear hq
        go_wp2_with fail
        refine hcall.mono ?_
        rintro e w' ⟨rfl, hb'⟩
        go_wp2_with fail
        go_ret
        exact ⟨by rw [ixA_hit hlt (by rw [HF.out]; exact HQ.out) hf.out]; rfl, hb'⟩
      | false =>
        rw [hq] at hcall
        have HQ := hide hq
        clear hq
        go_wp2_with fail
        refine hcall.mono ?_
        rintro e w' ⟨rfl, hb'⟩
        go_wp2_with fail
        go_roundw
        case rel =>
          refine ⟨k + 1, by omega, by go_num, hide (fun j hj => ?_), hide hb'⟩
          by_cases e : j = k
          · rw [e, HF.out]; exact HQ.out
          · exact hf.out j (by omega)
        case measure => exact meas_sub k _ hlt
    · obtain rfl : k = l.length := by omega
      go_wp2_with fail
      go_ret
      exact ⟨by rw [ixA_none hf.out]; rfl, hbr.out⟩

/-- what a closure gives, whatever was laid meanwhile -/
def PredS (w : World) (g : Nat) (lb : Array Value) (p : Sl → Bool) : Prop :=
  ∀ (W : World) (f : Sl), Below w.heap.size w W → Calls Try.prog g (#[.agg #[.int .u32 (f.id.toNat : Int), .slice f.A f.fs.length f.c]] ++ lb) W fun e w' => e = .returned (.bool (p f)) ∧ Below w.heap.size w w'
set_option maxRecDepth 100000 in
set_option maxHeartbeats 1000000 in
theorem indexS (w : World) (n c : Nat) (A : Option Addr) (l : List Sl) (hr : Rd w w.heap.size 2 A n c (slsV l)) (hmax : l.length ≤ 1000000) (g : Nat) (lb : Array Value) (p : Sl → Bool)
    (eg : ∀ args w, (callFunc g args).run Try.prog w = .ok (.enter g args) w) (hp : PredS w g lb p) :
    Calls Try.prog 74 #[.slice A n c, .func (.func g) #[] lb] w fun e w' => e = .returned (.int .i64 (ixA p l)) ∧ Below w.heap.size w w' := by
  obtain rfl := hr.lenS
  go_enter Try.func74, Try.ntmps74
  go_wp2_with fail
  go_loopw [5, 8] (fun _ kv wr => ∃ k : Nat, k ≤ l.length ∧ kv = .int .i64 (k : Int) ∧ Hid (∀ j, j < k → p (l.getD j default) = false) ∧ Hid (Below w.heap.size w wr)) (fun _ kv _ => l.length - (intOf kv).toNat)
  case atStart => exact ⟨0, Nat.zero_le _, rfl, hide (fun j h => by omega), hide (Below.refl _ _)⟩
  case round =>
    obtain ⟨k, hk, rfl, hf, hbr⟩ := hrel
    by_cases hlt : k < l.length
    · obtain ⟨b, off, rfl, hb, f0, f1⟩ := (hr.below hbr.out).sl hlt
      have hcall := hp wr (l.getD k default) hbr.out
      generalize hff : l.getD k default = f at *
      have HF := hide hff
      clear hff hp
      cases hq : p f with
      | true =>
        rw [hq] at hcall
        have HQ := hide hq
        clear hq
        go_wp2_with fail
        refine hcall.mono ?_
        rintro e w' ⟨rfl, hb'⟩
        go_wp2_with fail
        go_ret
        exact ⟨by rw [ixA_hit hlt (by rw [HF.out]; exact HQ.out) hf.out]; rfl, hb'⟩
      | false =>
        rw [hq] at hcall
        have HQ := hide hq
        clear hq
        go_wp2_with fail
        refine hcall.mono ?_
        rintro e w' ⟨rfl, hb'⟩
        go_wp2_with fail
        go_roundw
        case rel =>
          refine ⟨k + 1, by omega, by go_num, hide (fun j hj => ?_), hide hb'⟩
          by_cases e : j = k
          · rw [e, HF.out]; exact HQ.out
          · exact hf.out j (by omega)
        case measure => exact meas_sub k _ hlt
    · obtain rfl : k = l.length := by omega
      go_wp2_with fail
      go_ret
      exact ⟨by rw [ixA_none hf.out]; rfl, hbr.out⟩

theorem enter72 : ∀ args w, (callFunc 72 args).run Try.prog w = .ok (.enter 72 args) w := enters_of Try.func72 (by kernel_rfl) rfl
theorem enter75 : ∀ args w, (callFunc 75 args).run Try.prog w = .ok (.enter 75 args) w := enters_of Try.func75 (by kernel_rfl) rfl
/-- 's.Id == id', id in a box -/
theorem predSnap (w : World) (bf : Nat) (id : UInt64) (hbf : bf < w.heap.size) (hc : w.cell? ⟨bf, 0, none⟩ = some (.int .u64 (id.toNat : Int))) :
    PredN w 72 #[.pointer (some ⟨bf, 0, none⟩)] (fun f => (f.p.id.toNat : Int) == (id.toNat : Int)) := fun W f hb => by
  have h1 := (hb.cell (p := ⟨bf, 0, none⟩) hbf).trans hc
  have hBW : bf < W.heap.size := Nat.lt_of_lt_of_le hbf hb.size
  have hne : bf ≠ W.heap.size := Nat.ne_of_lt hBW
  show Calls Try.prog 72 #[.agg #[.int .u64 (f.p.id.toNat : Int), .int .u64 (f.p.par.toNat : Int), .int .u64 (f.p.seq.toNat : Int), .int .u64 (f.p.off.toNat : Int), .int .u64 (f.p.tim.toNat : Int), .int .u32 (f.p.sch.toNat : Int), .slice f.A f.p.ms.length f.c], .pointer (some ⟨bf, 0, none⟩)] W _
  clear hc
  go_enter Try.func72, Try.ntmps72
  go_wp2_with fail
  go_ret
  exact ⟨rfl, hb.alloc hb.size _⟩
theorem predShape (w : World) (bf : Nat) (id : UInt32) (hbf : bf < w.heap.size) (hc : w.cell? ⟨bf, 0, none⟩ = some (.int .u32 (id.toNat : Int))) :
    PredS w 75 #[.pointer (some ⟨bf, 0, none⟩)] (fun f => (f.id.toNat : Int) == (id.toNat : Int)) := fun W f hb => by
  have h1 := (hb.cell (p := ⟨bf, 0, none⟩) hbf).trans hc
  have hBW : bf < W.heap.size := Nat.lt_of_lt_of_le hbf hb.size
  have hne : bf ≠ W.heap.size := Nat.ne_of_lt hBW
  show Calls Try.prog 75 #[.agg #[.int .u32 (f.id.toNat : Int), .slice f.A f.fs.length f.c], .pointer (some ⟨bf, 0, none⟩)] W _
  clear hc
  go_enter Try.func75, Try.ntmps75
  go_wp2_with fail
  go_ret
  exact ⟨rfl, hb.alloc hb.size _⟩

theorem cloneS (w : World) (B n c : Nat) (A : Option Addr) (xs : List Value) (hr : Rd w B 1 A n c xs) (h1 : ∀ u ∈ xs, u.oneCell' = true) (hb : n * 16 ≤ 140737488355328) (hB : B ≤ w.heap.size) :
    Calls Try.prog 89 #[.slice A n c] w (RetRow w 9 1 n xs) := by
  have heq := fun W => Lib.run_eql_slice_nil (P := Try.prog) W 53 9 A n c 0 0 Try.underlying53
  cases A with
  | none =>
    obtain ⟨rfl, rfl⟩ := hr.none_
    go_enter Try.func89, Try.ntmps89
    go_wp2_with fail
    go_ret
    exact ⟨_, rfl, World.ownsRow_nil _ _ _ _, Below.refl _ _⟩
  | some ad =>
    have hlit := own_lit w (base := w.heap.size) 9 1 0 #[] (Nat.le_refl _) (by decide) rfl
    have hr' := hr.alloc hB (.cells #[] 9)
    go_enter Try.func89, Try.ntmps89
    go_wp2_with (at_builtin; refine wpList_app _ tyStrs rfl _ _ rfl w.heap.size _ 0 [] rfl hlit B (some ad) _ c _ rfl hr' h1 (by omega) (by simp) ?_; intro v2 w2 hown2 hg2 _; simp only [Nat.zero_add, List.nil_append] at hown2; have hb2 := below_app ((Below.refl w.heap.size w).alloc (Nat.le_refl _) (.cells #[] 9)) (Nat.le_refl _) hlit hg2 (by simp))
    go_ret
    exact ⟨v2, rfl, hown2, hb2⟩

set_option maxRecDepth 100000 in
theorem refSnap (w : World) (sA : Option Addr) (sc : Nat) (ss : List Sl) (nA : Option Addr) (nc : Nat) (ns : List Nl) (cur : Nat) (hT : TabR w w.heap.size sA sc ss nA nc ns) (id : UInt64) :
    Calls Try.prog 38 #[.agg #[.slice sA ss.length sc, .slice nA ns.length nc, .int .u64 (cur : Int)], .int .u64 (id.toNat : Int)] w fun e w' => e = .returned (.int .i64 (ixA (fun f => (f.p.id.toNat : Int) == (id.toNat : Int)) ns)) ∧ Below w.heap.size w w' := by
  have hcap : ns.length ≤ 9223372036854775807 := by have h1 := hT.nrow.le; have h2 := hT.nrow.cap; unfold maxLen at h2; omega
  go_enter Try.func38, Try.ntmps38
  go_wp2_with fail
  have x1 := box_new w #[.slice sA ss.length sc, .slice nA ns.length nc, .int .u64 (cur : Int)] 70
  have hT1 := (hT.below x1.below).more x1.below.size
  have hb1 := x1.below
  have s0 := x1.cell 1 _ rfl
  generalize w.alloc (.cells #[.slice sA ss.length sc, .slice nA ns.length nc, .int .u64 (cur : Int)] 70) = w1 at *
  clear x1 hT
  generalize hbx : w.heap.size = bx at *
  have HBX := hide hbx
  clear hbx
  have hrow := hT1.nrow
  clear hT1
  go_loop [5] (fun iv => ∃ k : Nat, k ≤ ns.length ∧ iv = .int .i64 (k : Int) ∧ Hid (∀ j, j < k → (((ns.getD j default).p.id.toNat : Int) == (id.toNat : Int)) = false)) (fun iv => ns.length - (intOf iv).toNat)
  case atStart => exact ⟨0, Nat.zero_le _, rfl, hide (fun j h => by omega)⟩
  case round =>
    obtain ⟨k, hk, rfl, hf⟩ := hrel
    by_cases hlt : k < ns.length
    · obtain ⟨b, off, rfl, hb, f0, _, _, _, _, _, _⟩ := hrow.nl hlt
      cases hq : ((ns.getD k default).p.id.toNat : Int) == (id.toNat : Int) with
      | true =>
        have HI : Hid (ixA (fun f : Nl => (f.p.id.toNat : Int) == (id.toNat : Int)) ns = (k : Int)) := hide (ixA_hit hlt hq hf.out)
        generalize (ns.getD k default).p.id.toNat = x at *
        go_wp2
        go_ret
        exact ⟨by rw [HI.out]; rfl, by rw [HBX.out]; exact hb1⟩
      | false =>
        have HQ := hide hq
        generalize hx : (ns.getD k default).p.id.toNat = x at *
        have HX := hide hx
        clear hx
        go_wp2
        go_round
        case rel =>
          refine ⟨k + 1, by omega, by go_num, hide (fun j hj => ?_)⟩
          by_cases e : j = k
          · rw [e, HX.out]; exact HQ.out
          · exact hf.out j (by omega)
        case measure => simp [intOf]; omega
    · have HI : Hid (ixA (fun f : Nl => (f.p.id.toNat : Int) == (id.toNat : Int)) ns = -1) := hide (ixA_none fun j hj => hf.out j (by omega))
      go_wp2
      go_ret
      exact ⟨by rw [HI.out]; rfl, by rw [HBX.out]; exact hb1⟩

set_option maxRecDepth 100000 in
theorem refShape (w : World) (sA : Option Addr) (sc : Nat) (ss : List Sl) (nA : Option Addr) (nc : Nat) (ns : List Nl) (cur : Nat) (hT : TabR w w.heap.size sA sc ss nA nc ns) (id : UInt32) :
    Calls Try.prog 39 #[.agg #[.slice sA ss.length sc, .slice nA ns.length nc, .int .u64 (cur : Int)], .int .u32 (id.toNat : Int)] w fun e w' => e = .returned (.int .i64 (ixA (fun f => (f.id.toNat : Int) == (id.toNat : Int)) ss)) ∧ Below w.heap.size w w' := by
  have hcap : ss.length ≤ 9223372036854775807 := by have h1 := hT.srow.le; have h2 := hT.srow.cap; unfold maxLen at h2; omega
  go_enter Try.func39, Try.ntmps39
  go_wp2_with fail
  have x1 := box_new w #[.slice sA ss.length sc, .slice nA ns.length nc, .int .u64 (cur : Int)] 70
  have hT1 := (hT.below x1.below).more x1.below.size
  have hb1 := x1.below
  have s0 := x1.cell 0 _ rfl
  generalize w.alloc (.cells #[.slice sA ss.length sc, .slice nA ns.length nc, .int .u64 (cur : Int)] 70) = w1 at *
  clear x1 hT
  generalize hbx : w.heap.size = bx at *
  have HBX := hide hbx
  clear hbx
  have hrow := hT1.srow
  clear hT1
  go_loop [5] (fun iv => ∃ k : Nat, k ≤ ss.length ∧ iv = .int .i64 (k : Int) ∧ Hid (∀ j, j < k → (((ss.getD j default).id.toNat : Int) == (id.toNat : Int)) = false)) (fun iv => ss.length - (intOf iv).toNat)
  case atStart => exact ⟨0, Nat.zero_le _, rfl, hide (fun j h => by omega)⟩
  case round =>
    obtain ⟨k, hk, rfl, hf⟩ := hrel
    by_cases hlt : k < ss.length
    · obtain ⟨b, off, rfl, hb, f0, _⟩ := hrow.sl hlt
      cases hq : ((ss.getD k default).id.toNat : Int) == (id.toNat : Int) with
      | true =>
        have HI : Hid (ixA (fun f : Sl => (f.id.toNat : Int) == (id.toNat : Int)) ss = (k : Int)) := hide (ixA_hit hlt hq hf.out)
        generalize (ss.getD k default).id.toNat = x at *
        go_wp2
        go_ret
        exact ⟨by rw [HI.out]; rfl, by rw [HBX.out]; exact hb1⟩
      | false =>
        have HQ := hide hq
        generalize hx : (ss.getD k default).id.toNat = x at *
        have HX := hide hx
        clear hx
        go_wp2
        go_round
        case rel =>
          refine ⟨k + 1, by omega, by go_num, hide (fun j hj => ?_)⟩
          by_cases e : j = k
          · rw [e, HX.out]; exact HQ.out
          · exact hf.out j (by omega)
        case measure => simp [intOf]; omega
    · have HI : Hid (ixA (fun f : Sl => (f.id.toNat : Int) == (id.toNat : Int)) ss = -1) := hide (ixA_none fun j hj => hf.out j (by omega))
      go_wp2
      go_ret
      exact ⟨by rw [HI.out]; rfl, by rw [HBX.out]; exact hb1⟩

/-! ### a snapshot as a value of its own -/
theorem load_sn (w : World) (b : Nat) (v0 v1 v2 v3 v4 v5 v6 : Value) (c0 : w.cell? ⟨b, 0, none⟩ = some v0) (c1 : w.cell? ⟨b, 1, none⟩ = some v1) (c2 : w.cell? ⟨b, 2, none⟩ = some v2) (c3 : w.cell? ⟨b, 3, none⟩ = some v3) (c4 : w.cell? ⟨b, 4, none⟩ = some v4) (c5 : w.cell? ⟨b, 5, none⟩ = some v5) (c6 : w.cell? ⟨b, 6, none⟩ = some v6) :
    (loadVar 73 ⟨b, 0, none⟩).run Try.prog w = .ok (.agg #[v0, v1, v2, v3, v4, v5, v6]) w := by
  go_simp
theorem ret_sn1 {fn : Func} {p : Tmp} (h : fn.results = #[.cell p 73]) (tmps : Array Value) (w : World) {b : Nat} {v0 v1 v2 v3 v4 v5 v6 : Value} (hp : tmps.getD p undef = .pointer (some ⟨b, 0, none⟩)) (hb : BoxN w b [v0, v1, v2, v3, v4, v5, v6]) :
    (results fn tmps).run Try.prog w = .ok (.agg #[v0, v1, v2, v3, v4, v5, v6]) w := by
  rw [results_cell h, hp]
  have := load_sn w b _ _ _ _ _ _ _ (hb.cell 0 _ rfl) (hb.cell 1 _ rfl) (hb.cell 2 _ rfl) (hb.cell 3 _ rfl) (hb.cell 4 _ rfl) (hb.cell 5 _ rfl) (hb.cell 6 _ rfl)
  simp [asAddr, Result.andThen, this]
theorem ret_sn2 {fn : Func} {p u : Tmp} (h : fn.results = #[.cell p 73, .tmp u]) (tmps : Array Value) (w : World) {b : Nat} {v0 v1 v2 v3 v4 v5 v6 : Value} (hp : tmps.getD p undef = .pointer (some ⟨b, 0, none⟩)) (hb : BoxN w b [v0, v1, v2, v3, v4, v5, v6]) :
    (results fn tmps).run Try.prog w = .ok (.tuple #[.agg #[v0, v1, v2, v3, v4, v5, v6], tmps.getD u undef]) w := by
  rw [results_cell_tmp h, hp]
  have := load_sn w b _ _ _ _ _ _ _ (hb.cell 0 _ rfl) (hb.cell 1 _ rfl) (hb.cell 2 _ rfl) (hb.cell 3 _ rfl) (hb.cell 4 _ rfl) (hb.cell 5 _ rfl) (hb.cell 6 _ rfl)
  simp [asAddr, Result.andThen, this]
/-- seven cells laid into a box -/
def set7 (w : World) (b : Nat) (v0 v1 v2 v3 v4 v5 v6 : Value) : World := ((((((w.setCell ⟨b, 0, none⟩ v0).setCell ⟨b, 1, none⟩ v1).setCell ⟨b, 2, none⟩ v2).setCell ⟨b, 3, none⟩ v3).setCell ⟨b, 4, none⟩ v4).setCell ⟨b, 5, none⟩ v5).setCell ⟨b, 6, none⟩ v6
section
variable {w : World} {b : Nat} {v0 v1 v2 v3 v4 v5 v6 : Value}
theorem BoxN.set7 {u0 u1 u2 u3 u4 u5 u6 : Value} (h : BoxN w b [u0, u1, u2, u3, u4, u5, u6]) : BoxN (set7 w b v0 v1 v2 v3 v4 v5 v6) b [v0, v1, v2, v3, v4, v5, v6] :=
  ((((((h.set (j := 0) v0 rfl).set (j := 1) v1 rfl).set (j := 2) v2 rfl).set (j := 3) v3 rfl).set (j := 4) v4 rfl).set (j := 5) v5 rfl).set (j := 6) v6 rfl
theorem own_set7 {base : Nat} {e : TypeId} {sz n : Nat} {v : Value} {xs : List Value} (h : w.ownsRow base e sz v n xs) (hb : b < base) : (set7 w b v0 v1 v2 v3 v4 v5 v6).ownsRow base e sz v n xs := by
  unfold Go.Proofs.Ytlccpchlclpnaaa.set7
  exact ownsRow_setCell_below (ownsRow_setCell_below (ownsRow_setCell_below (ownsRow_setCell_below (ownsRow_setCell_below (ownsRow_setCell_below (ownsRow_setCell_below h (a := ⟨b, 0, none⟩) hb _) (a := ⟨b, 1, none⟩) hb _) (a := ⟨b, 2, none⟩) hb _) (a := ⟨b, 3, none⟩) hb _) (a := ⟨b, 4, none⟩) hb _) (a := ⟨b, 5, none⟩) hb _) (a := ⟨b, 6, none⟩) hb _
theorem below_set7 {B : Nat} {w0 : World} (h : Below B w0 w) (hb : B ≤ b) : Below B w0 (set7 w b v0 v1 v2 v3 v4 v5 v6) :=
  ((((((h.setCell (p := ⟨b, 0, none⟩) hb _).setCell (p := ⟨b, 1, none⟩) hb _).setCell (p := ⟨b, 2, none⟩) hb _).setCell (p := ⟨b, 3, none⟩) hb _).setCell (p := ⟨b, 4, none⟩) hb _).setCell (p := ⟨b, 5, none⟩) hb _).setCell (p := ⟨b, 6, none⟩) hb _
end
/-- a snapshot with texts of its own -/
def OwnEnd (w : World) (p : Sn) (e : Ending) (w' : World) : Prop :=
  ∃ A c, e = .returned (.agg #[.int .u64 (p.id.toNat : Int), .int .u64 (p.par.toNat : Int), .int .u64 (p.seq.toNat : Int), .int .u64 (p.off.toNat : Int), .int .u64 (p.tim.toNat : Int), .int .u32 (p.sch.toNat : Int), .slice A p.ms.length c]) ∧ w'.ownsRow w.heap.size 9 1 (.slice A p.ms.length c) p.ms.length (strsV p.ms) ∧ Below w.heap.size w w'
set_option maxRecDepth 100000 in
theorem metaOwn (w : World) (p : Sn) (A : Option Addr) (c : Nat) (hr : Rd w w.heap.size 1 A p.ms.length c (strsV p.ms)) (hmax : p.ms.length ≤ 1000000) :
    Calls Try.prog 73 #[.agg #[.int .u64 (p.id.toNat : Int), .int .u64 (p.par.toNat : Int), .int .u64 (p.seq.toNat : Int), .int .u64 (p.off.toNat : Int), .int .u64 (p.tim.toNat : Int), .int .u32 (p.sch.toNat : Int), .slice A p.ms.length c]] w (OwnEnd w p) := by
  go_enter Try.func73, Try.ntmps73
  go_wp2_with fail
  have x1 := boxN_new w #[.int .u64 (p.id.toNat : Int), .int .u64 (p.par.toNat : Int), .int .u64 (p.seq.toNat : Int), .int .u64 (p.off.toNat : Int), .int .u64 (p.tim.toNat : Int), .int .u32 (p.sch.toNat : Int), .slice A p.ms.length c] 73
  have hb1 := (Below.refl w.heap.size w).alloc (Nat.le_refl _) (.cells #[.int .u64 (p.id.toNat : Int), .int .u64 (p.par.toNat : Int), .int .u64 (p.seq.toNat : Int), .int .u64 (p.off.toNat : Int), .int .u64 (p.tim.toNat : Int), .int .u32 (p.sch.toNat : Int), .slice A p.ms.length c] 73)
  have hz1 : (w.alloc (.cells #[.int .u64 (p.id.toNat : Int), .int .u64 (p.par.toNat : Int), .int .u64 (p.seq.toNat : Int), .int .u64 (p.off.toNat : Int), .int .u64 (p.tim.toNat : Int), .int .u32 (p.sch.toNat : Int), .slice A p.ms.length c] 73)).heap.size = w.heap.size + 1 := by simp
  generalize w.alloc (.cells #[.int .u64 (p.id.toNat : Int), .int .u64 (p.par.toNat : Int), .int .u64 (p.seq.toNat : Int), .int .u64 (p.off.toNat : Int), .int .u64 (p.tim.toNat : Int), .int .u32 (p.sch.toNat : Int), .slice A p.ms.length c] 73) = w1 at *
  have x2 := boxN_new w1 #[.int .u64 0, .int .u64 0, .int .u64 0, .int .u64 0, .int .u64 0, .int .u32 0, .slice none 0 0] 73
  have hb2 := (Below.refl w1.heap.size w1).alloc (Nat.le_refl _) (.cells #[.int .u64 0, .int .u64 0, .int .u64 0, .int .u64 0, .int .u64 0, .int .u32 0, .slice none 0 0] 73)
  have x1' := x1.keep hb2 x1.z
  have hB2 := below_call hb1 hb1.size hb2
  have hz2 : (w1.alloc (.cells #[.int .u64 0, .int .u64 0, .int .u64 0, .int .u64 0, .int .u64 0, .int .u32 0, .slice none 0 0] 73)).heap.size = w1.heap.size + 1 := by simp
  rw [← hz1]
  generalize w1.alloc (.cells #[.int .u64 0, .int .u64 0, .int .u64 0, .int .u64 0, .int .u64 0, .int .u32 0, .slice none 0 0] 73) = w2 at *
  have hr2 := (hr.below hB2).more hB2.size
  obtain ⟨b1, hb1e⟩ : ∃ b, b = w.heap.size := ⟨_, rfl⟩
  obtain ⟨b2, hb2e⟩ : ∃ b, b = w1.heap.size := ⟨_, rfl⟩
  rw [← hb1e] at x1' ⊢
  rw [← hb2e] at x2 ⊢
  have k1 : b1 < b2 := by omega
  have k2 : b2 < w2.heap.size := by omega
  have k3 : w.heap.size ≤ b1 := by omega
  have k4 : w.heap.size ≤ w2.heap.size := by omega
  clear hb1 hb2 x1 hr hz1 hz2 hb1e hb2e
  have c6 := x1'.cell 6 _ rfl
  go_wp2_with fail
  refine (cloneS w2 w2.heap.size _ c A (strsV p.ms) hr2 (strsV_one _) (by omega) (Nat.le_refl _)).mono ?_
  rintro e w3 ⟨v3, rfl, hown3, hb3⟩
  have y1 := x1'.keep hb3 x1'.z
  have y2 := x2.keep hb3 x2.z
  have hB3 := below_call hB2 hB2.size hb3
  obtain ⟨A3, c3, rfl, _⟩ := Rd.of_own hown3
  have z1 := y1.set (j := 6) (.slice A3 p.ms.length c3) rfl
  have z2 := y2.else (p := ⟨b1, 6, none⟩) (Nat.ne_of_lt k1) (.slice A3 p.ms.length c3)
  have hown4 := ownsRow_setCell_below hown3 (a := ⟨b1, 6, none⟩) (by show b1 < w2.heap.size; omega) (.slice A3 p.ms.length c3)
  have hB4 : Below w.heap.size w (w3.setCell ⟨b1, 6, none⟩ (.slice A3 p.ms.length c3)) := hB3.setCell (p := ⟨b1, 6, none⟩) k3 _
  have g0 := y1.cell 0 _ rfl
  have g1 := y1.cell 1 _ rfl
  have g2 := y1.cell 2 _ rfl
  have g3 := y1.cell 3 _ rfl
  have g4 := y1.cell 4 _ rfl
  have g5 := y1.cell 5 _ rfl
  have g6 := y1.cell 6 _ rfl
  have gf := y1.free 6 (by simp)
  have e0 := y2.cell 0 _ rfl
  have e1 := y2.cell 1 _ rfl
  have e2 := y2.cell 2 _ rfl
  have e3 := y2.cell 3 _ rfl
  have e4 := y2.cell 4 _ rfl
  have e5 := y2.cell 5 _ rfl
  have e6 := y2.cell 6 _ rfl
  have h0 := y2.free 0 (by simp)
  have h1 := y2.free 1 (by simp)
  have h2 := y2.free 2 (by simp)
  have h3 := y2.free 3 (by simp)
  have h4 := y2.free 4 (by simp)
  have h5 := y2.free 5 (by simp)
  have h6 := y2.free 6 (by simp)
  have ne12 : b1 ≠ b2 := Nat.ne_of_lt k1
  have ne21 : b2 ≠ b1 := fun q => ne12 q.symm
  have Z2 := hide z2
  have HO := hide hown4
  have HB := hide hB4
  clear z1 z2 hown4 hB4 y1 y2 hown3 hb3 hB3 x1' x2 hB2 hr2 c6
  go_wp2_with fail
  (try simp only [Exit.inBlock, Exit.then])
  refine bodyPost_ret (ret_sn1 (b := b2) rfl _ _ rfl Z2.out.set7) rfl ?_
  refine ⟨A3, c3, rfl, ?_, below_set7 HB.out (by omega)⟩
  exact own_base (own_set7 HO.out k2) k4

def sIx (ns : List Nl) (id : UInt64) : Int := ixA (fun f : Nl => (f.p.id.toNat : Int) == (id.toNat : Int)) ns
def cIx (ss : List Sl) (id : UInt32) : Int := ixA (fun f : Sl => (f.id.toNat : Int) == (id.toNat : Int)) ss
def snAt (ns : List Nl) (i : Int) : Sn := if 0 ≤ i then (ns.getD i.toNat default).p else default
def SnapEnd (w : World) (ns : List Nl) (i : Int) (e : Ending) (w' : World) : Prop :=
  ∃ A c, e = .returned (.tuple #[.agg #[.int .u64 ((snAt ns i).id.toNat : Int), .int .u64 ((snAt ns i).par.toNat : Int), .int .u64 ((snAt ns i).seq.toNat : Int), .int .u64 ((snAt ns i).off.toNat : Int), .int .u64 ((snAt ns i).tim.toNat : Int), .int .u32 ((snAt ns i).sch.toNat : Int), .slice A (snAt ns i).ms.length c], .bool (decide (0 ≤ i))]) ∧ w'.ownsRow w.heap.size 9 1 (.slice A (snAt ns i).ms.length c) (snAt ns i).ms.length (strsV (snAt ns i).ms) ∧ Below w.heap.size w w'
theorem rd_set7 {w : World} {b sz n c : Nat} {A : Option Addr} {xs : List Value} {v0 v1 v2 v3 v4 v5 v6 : Value} {base : Nat} {e : TypeId} (h : w.ownsRow base e sz (.slice A n c) n xs) (hb : b < base) :
    Rd (set7 w b v0 v1 v2 v3 v4 v5 v6) (set7 w b v0 v1 v2 v3 v4 v5 v6).heap.size sz A n c xs := by
  obtain ⟨A', c', q, hr⟩ := Rd.of_own (own_set7 (v0 := v0) (v1 := v1) (v2 := v2) (v3 := v3) (v4 := v4) (v5 := v5) (v6 := v6) h hb)
  injection q with q1 q2 q3
  subst q1 q3
  exact hr
set_option maxRecDepth 100000 in
set_option maxHeartbeats 1000000 in
theorem metaSnap (w : World) (sA : Option Addr) (sc : Nat) (ss : List Sl) (nA : Option Addr) (nc : Nat) (ns : List Nl) (cur : Nat) (hT : TabR w w.heap.size sA sc ss nA nc ns) (hmax : ns.length ≤ 1000000) (hm : ∀ s ∈ ns, s.p.ms.length ≤ 1000000) (id : UInt64) :
    Calls Try.prog 36 #[.agg #[.slice sA ss.length sc, .slice nA ns.length nc, .int .u64 (cur : Int)], .int .u64 (id.toNat : Int)] w (SnapEnd w ns (sIx ns id)) := by
  go_enter Try.func36, Try.ntmps36
  go_wp2_with fail
  have x1 := boxN_new w #[.slice sA ss.length sc, .slice nA ns.length nc, .int .u64 (cur : Int)] 70
  have hb1 := (Below.refl w.heap.size w).alloc (Nat.le_refl _) (.cells #[.slice sA ss.length sc, .slice nA ns.length nc, .int .u64 (cur : Int)] 70)
  have hz1 : (w.alloc (.cells #[.slice sA ss.length sc, .slice nA ns.length nc, .int .u64 (cur : Int)] 70)).heap.size = w.heap.size + 1 := by simp
  generalize w.alloc (.cells #[.slice sA ss.length sc, .slice nA ns.length nc, .int .u64 (cur : Int)] 70) = w1 at *
  have x2 := boxN_new w1 #[.int .u64 (id.toNat : Int)] 68
  have hb2 := (Below.refl w1.heap.size w1).alloc (Nat.le_refl _) (.cells #[.int .u64 (id.toNat : Int)] 68)
  have hz2 : (w1.alloc (.cells #[.int .u64 (id.toNat : Int)] 68)).heap.size = w1.heap.size + 1 := by simp
  have x1b := x1.keep hb2 x1.z
  have hB2 := below_call hb1 hb1.size hb2
  generalize w1.alloc (.cells #[.int .u64 (id.toNat : Int)] 68) = w2 at *
  have x3 := boxN_new w2 #[.int .u64 0, .int .u64 0, .int .u64 0, .int .u64 0, .int .u64 0, .int .u32 0, .slice none 0 0] 73
  have hb3 := (Below.refl w2.heap.size w2).alloc (Nat.le_refl _) (.cells #[.int .u64 0, .int .u64 0, .int .u64 0, .int .u64 0, .int .u64 0, .int .u32 0, .slice none 0 0] 73)
  have hz3 : (w2.alloc (.cells #[.int .u64 0, .int .u64 0, .int .u64 0, .int .u64 0, .int .u64 0, .int .u32 0, .slice none 0 0] 73)).heap.size = w2.heap.size + 1 := by simp
  have x1c := x1b.keep hb3 x1b.z
  have x2c := x2.keep hb3 x2.z
  have hB3 := below_call hB2 hB2.size hb3
  generalize w2.alloc (.cells #[.int .u64 0, .int .u64 0, .int .u64 0, .int .u64 0, .int .u64 0, .int .u32 0, .slice none 0 0] 73) = w3 at *
  have hT3 := hT.later hB3
  rw [← hz1, ← hz2]
  have z12 : w.heap.size < w1.heap.size := by omega
  have z23 : w1.heap.size < w2.heap.size := by omega
  have z34 : w2.heap.size < w3.heap.size := by omega
  have hw1 : w.heap.size ≤ w2.heap.size := by omega
  generalize hb1e : w.heap.size = b1 at *
  generalize w1.heap.size = b2 at *
  generalize w2.heap.size = b3 at *
  have H1 := hide hb1e
  clear hz1 hz2 hz3 hb1 hb2 hb3 x1 x1b x2 hB2 hT hb1e
  refine (indexN w3 _ nc nA ns hT3.nrow hmax 72 _ _ enter72 (predSnap w3 b2 id x2c.z (x2c.cell 0 _ rfl))).mono ?_
  rintro e w4 ⟨rfl, hb4⟩
  obtain ⟨i, hi⟩ : ∃ i, i = sIx ns id := ⟨_, rfl⟩
  have hi2 := hi
  unfold sIx at hi2
  rw [← hi2]
  have HI := hide hi
  have HI2 := hide hi2
  have X1 := x1c.keep hb4 x1c.z
  have X3 := x3.keep hb4 x3.z
  have hT4 := hT3.later hb4
  have hB4 : Below b1 w w4 := hB3.trans (hb4.mono (by omega))
  have hz4 := hb4.size
  clear hi hi2 x1c x2c x3 hT3 hB3 hb4
  have t1 := X1.cell 1 _ rfl
  have g0 := X3.cell 0 _ rfl
  have k0 := X3.free 0 (by simp)
  have g1 := X3.cell 1 _ rfl
  have k1 := X3.free 1 (by simp)
  have g2 := X3.cell 2 _ rfl
  have k2 := X3.free 2 (by simp)
  have g3 := X3.cell 3 _ rfl
  have k3 := X3.free 3 (by simp)
  have g4 := X3.cell 4 _ rfl
  have k4 := X3.free 4 (by simp)
  have g5 := X3.cell 5 _ rfl
  have k5 := X3.free 5 (by simp)
  have g6 := X3.cell 6 _ rfl
  have k6 := X3.free 6 (by simp)
  by_cases h0 : i < 0
  · have hd : decide (i < 0) = true := decide_eq_true h0
    have HX := hide X3
    have HS : Hid (snAt ns i = default ∧ decide (0 ≤ i) = false) := hide ⟨by unfold snAt; rw [if_neg (by omega)], decide_eq_false (by omega)⟩
    clear h0 X1 X3 hT4
    go_wp2_with fail
    (try simp only [Exit.inBlock, Exit.then])
    refine bodyPost_ret (ret_sn2 (b := b3) rfl _ _ rfl HX.out.set7) rfl ?_
    rw [← HI.out]
    refine ⟨none, 0, ?_, ?_, ?_⟩
    · rw [HS.out.1, HS.out.2]; rfl
    · rw [HS.out.1]; exact World.ownsRow_nil _ _ _ _
    · rw [H1.out]; exact below_set7 hB4 hw1
  · have hd : decide (i < 0) = false := decide_eq_false h0
    obtain ⟨hk, hik, _⟩ := ixA_at HI2.out.symm (by omega)
    generalize i.toNat = k at hk hik
    subst hik
    have hk0 : ns.length ≤ 9223372036854775807 := by omega
    obtain ⟨b, off, rfl, hb, f0, f1, f2, f3, f4, f5, f6⟩ := hT4.nrow.nl hk
    have hrd := hT4.n_at hk
    have hml := hm _ (getD_mem hk)
    have HS : Hid (snAt ns (k : Int) = (ns.getD k default).p ∧ decide ((0 : Int) ≤ (k : Int)) = true) := hide ⟨by unfold snAt; rw [if_pos (by omega), Int.toNat_natCast], decide_eq_true (by omega)⟩
    generalize ns.getD k default = f at *
    have HX := hide X3
    clear X1 X3 hT4 h0
    go_wp2_with fail
    refine (metaOwn w4 f.p f.A f.c hrd hml).mono ?_
    rintro e w5 ⟨A5, c5, rfl, hown5, hb5⟩
    have Y3 := HX.out.keep hb5 HX.out.z
    clear t1 f0 f1 f2 f3 f4 f5 f6 g0 k0 g1 k1 g2 k2 g3 k3 g4 k4 g5 k5 g6 k6
    have g0 := Y3.cell 0 _ rfl
    have k0 := Y3.free 0 (by simp)
    have g1 := Y3.cell 1 _ rfl
    have k1 := Y3.free 1 (by simp)
    have g2 := Y3.cell 2 _ rfl
    have k2 := Y3.free 2 (by simp)
    have g3 := Y3.cell 3 _ rfl
    have k3 := Y3.free 3 (by simp)
    have g4 := Y3.cell 4 _ rfl
    have k4 := Y3.free 4 (by simp)
    have g5 := Y3.cell 5 _ rfl
    have k5 := Y3.free 5 (by simp)
    have g6 := Y3.cell 6 _ rfl
    have k6 := Y3.free 6 (by simp)
    have hB5 : Below b1 w w5 := hB4.trans (hb5.mono (by omega))
    have HY := hide Y3
    have HO := hide hown5
    have hz5 : b3 < w4.heap.size := HX.out.z
    clear Y3 hown5 hb5
    go_wp2_with fail
    (try simp only [Exit.inBlock, Exit.then])
    refine bodyPost_ret (ret_sn2 (b := b3) rfl _ _ rfl HY.out.set7) rfl ?_
    rw [← HI.out]
    refine ⟨A5, c5, ?_, ?_, ?_⟩
    · rw [HS.out.1, HS.out.2]; rfl
    · rw [HS.out.1, H1.out]; exact own_base (own_set7 HO.out hz5) (by omega)
    · rw [H1.out]; exact below_set7 hB5 hw1

end Go.Proofs.Ytlccpchlclpnaaa
