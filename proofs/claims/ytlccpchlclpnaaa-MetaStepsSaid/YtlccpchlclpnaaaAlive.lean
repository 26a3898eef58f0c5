/- THE WALK of the schemas' stage: the document's examples. No statement of the seat is proved here; no condition. -/
import Derived.Test.YtlccpchlclpnaaaLift
namespace Go.Proofs.Ytlccpchlclpnaaa
open Go.RowKit

def two : List Fd := [⟨1, ⟨#[105, 100]⟩, 1, true⟩, ⟨2, ⟨#[110, 97, 109, 101]⟩, 3, false⟩]
def age : ByteArray := ⟨#[97, 103, 101]⟩
def three : List Fd := two ++ [newFd two age 1]
theorem add_two : addErr 1 two age 1 = 0 ∧ addId 1 two age 1 = 2 ∧ addFds 1 two age 1 = three := by
  have h : addErr 1 two age 1 = 0 := by decide +kernel
  refine ⟨h, ?_, ?_⟩
  · unfold addId; rw [if_pos h]; rfl
  · unfold addFds; rw [if_pos h]; rfl
theorem fit_1 : fitErr two [.whole 7, .none] = 0 := by decide +kernel
theorem fit_2 : fitErr two [.none, .text ⟨#[97]⟩] = 82 := by decide +kernel
theorem fit_3 : fitErr two [.whole 7, .whole 8] = 10 := by decide +kernel
theorem lift_1 : liftRow two three [.whole 7, .text ⟨#[97]⟩] = [.whole 7, .text ⟨#[97]⟩, .none] := by
  have h1 : placeOf 1 two = 0 := by decide +kernel
  have h2 : placeOf 2 two = 1 := by decide +kernel
  have h3 : placeOf 3 two = -1 := by decide +kernel
  show [liftAt two _ _, liftAt two _ _, liftAt two _ _] = _
  have e1 : ((⟨1, ⟨#[105, 100]⟩, 1, true⟩ : Fd).id.toNat) = 1 := rfl
  have e2 : ((⟨2, ⟨#[110, 97, 109, 101]⟩, 3, false⟩ : Fd).id.toNat) = 2 := rfl
  have e3 : ((newFd two age 1).id.toNat) = 3 := by decide +kernel
  unfold liftAt
  rw [e1, e2, e3, h1, h2, h3]
  rfl
theorem ret_sch1 {fn : Func} {p : Tmp} (h : fn.results = #[.cell p 25]) (tmps : Array Value) (w : World) {b : Nat} {x y : Value} (hp : tmps.getD p undef = .pointer (some ⟨b, 0, none⟩)) (c0 : w.cell? ⟨b, 0, none⟩ = some x) (c1 : w.cell? ⟨b, 1, none⟩ = some y) :
    (results fn tmps).run Try.prog w = .ok (.agg #[x, y]) w := by
  have := load_sch w b x y c0 c1
  have hp' : tmps[p]?.getD undef = .pointer (some ⟨b, 0, none⟩) := by simpa using hp
  simp only [results, h]
  simp [hp', asAddr, this]
theorem lawTwo (w : World) : Calls Try.prog 50 #[] w fun e w' => ∃ v, e = .returned v ∧ SchR w' v 1 two ∧ Below w.heap.size w w' := by
  go_enter Try.func50, Try.ntmps50
  go_wp2_with fail
  have x1 := box_new w #[.int .u32 1, .slice (some ⟨w.heap.size + 1, 0, none⟩) 2 2] 25
  generalize hwa : w.alloc (.cells #[.int .u32 1, .slice (some ⟨w.heap.size + 1, 0, none⟩) 2 2] 25) = wa at *
  have hb := (Below.refl wa.heap.size wa).alloc (Nat.le_refl _) (.cells #[.int .u32 1, .string ⟨#[105, 100]⟩, .int .u8 1, .bool true, .int .u32 2, .string ⟨#[110, 97, 109, 101]⟩, .int .u8 3, .bool false] 96)
  have hl := Rd.lit wa (n := 2) (sz := 4) 96 #[.int .u32 1, .string ⟨#[105, 100]⟩, .int .u8 1, .bool true, .int .u32 2, .string ⟨#[110, 97, 109, 101]⟩, .int .u8 3, .bool false] rfl (by decide)
  have hz := x1.size
  generalize hwb : wa.alloc (.cells #[.int .u32 1, .string ⟨#[105, 100]⟩, .int .u8 1, .bool true, .int .u32 2, .string ⟨#[110, 97, 109, 101]⟩, .int .u8 3, .bool false] 96) = w2 at *
  obtain ⟨cs, _, zs, hb2⟩ := x1.lift hb
  (try simp only [Exit.inBlock, Exit.then])
  refine bodyPost_ret (ret_sch1 (b := w.heap.size) (x := .int .u32 1) (y := .slice (some ⟨w.heap.size + 1, 0, none⟩) 2 2) rfl _ _ rfl (cs 0 _ rfl) (cs 1 _ rfl)) rfl ?_
  refine ⟨_, rfl, ⟨some ⟨w.heap.size + 1, 0, none⟩, 2, rfl, ?_⟩, hb2⟩
  rw [← hz]
  have hw2 : wa.heap.size + 1 ≤ w2.heap.size := by rw [← hwb]; simp
  exact hl.more hw2

set_option maxRecDepth 100000 in
set_option maxHeartbeats 2000000 in
theorem alive08 (w : World) : Calls Try.prog 11 #[] w fun e w' => e = .returned (.bool true) ∧ Below w.heap.size w w' := by
  go_enter Try.func11, Try.ntmps11
  go_wp2_with fail
  refine (lawTwo w).mono ?_
  rintro e w1 ⟨v, rfl, ⟨A, c, rfl, hr1⟩, hb1⟩
  go_wp2_with fail
  have x1 := box_new w1 #[.int .u32 1, .slice A two.length c] 25
  generalize hw2 : w1.alloc (.cells #[.int .u32 1, .slice A two.length c] 25) = w2 at *
  obtain ⟨cs, _, z2, _⟩ := x1.lift (Below.refl _ _)
  have s0 : w2.cell? ⟨w1.heap.size, 0, none⟩ = some (.int .u32 1) := cs 0 _ rfl
  have s1 : w2.cell? ⟨w1.heap.size, 1, none⟩ = some (.slice A two.length c) := cs 1 _ rfl
  have hb2 : Below w.heap.size w w2 := below_call hb1 hb1.size x1.below
  have hr2 := (hr1.below x1.below).more x1.below.size
  generalize w1.heap.size = bs at *
  clear hw2 cs x1 hr1 hb1
  have hadd : Calls Try.prog 13 #[.agg #[.int .u32 1, .slice A two.length c], .string ⟨#[97, 103, 101]⟩, .int .u8 1] w2 (AddEnd w2 1 two age 1) := schAdd w2 1 _ c A two hr2 age 1 (by decide)
  refine hadd.mono ?_
  rintro e w3 ⟨v, he, hsch, hb3⟩
  rw [add_two.1] at he
  rw [add_two.2.1, add_two.2.2] at hsch
  obtain ⟨A3, c3, rfl, hr3⟩ := hsch
  subst he
  have sa := (hb3.cell (p := ⟨bs, 0, none⟩) z2).trans s0
  have sb := (hb3.cell (p := ⟨bs, 1, none⟩) z2).trans s1
  have z3 : bs < w3.heap.size := Nat.lt_of_lt_of_le z2 hb3.size
  have hB3 : Below w.heap.size w w3 := below_call hb2 hb2.size hb3
  have hq3 := (hr2.below hb3).more hb3.size
  have zne : bs ≠ w3.heap.size := Nat.ne_of_lt z3
  clear hadd s0 s1 z2 hb2 hb3 hr2
  have e2 : (((2 : UInt32).toNat : Int)) = 2 := rfl
  have e0 : ((0 : Nat) : Int) = 0 := rfl
  rw [e2, e0]
  go_wp2_with fail
  have y1 := box_new w3 #[.int .u32 2, .slice A3 three.length c3] 25
  generalize hwa : w3.alloc (.cells #[.int .u32 2, .slice A3 three.length c3] 25) = wa at *
  have hlit := Rd.lit wa (n := 2) (sz := 1) 97 #[.iface 2 (.int .i64 7), .iface 9 (.string ⟨#[97]⟩)] rfl (by decide)
  have hbl := (Below.refl wa.heap.size wa).alloc (Nat.le_refl _) (.cells #[.iface 2 (.int .i64 7), .iface 9 (.string ⟨#[97]⟩)] 97)
  have hza := y1.size
  generalize hwb : wa.alloc (.cells #[.iface 2 (.int .i64 7), .iface 9 (.string ⟨#[97]⟩)] 97) = wb at *
  have hsz : wa.heap.size + 1 ≤ wb.heap.size := by rw [← hwb]; simp
  obtain ⟨cs, _, zt, hbW⟩ := y1.lift hbl
  have ta : wb.cell? ⟨w3.heap.size, 0, none⟩ = some (.int .u32 2) := cs 0 _ rfl
  have tb : wb.cell? ⟨w3.heap.size, 1, none⟩ = some (.slice A3 three.length c3) := cs 1 _ rfl
  have hlift : Calls Try.prog 26 #[.agg #[.int .u32 1, .slice A two.length c], .agg #[.int .u32 2, .slice A3 three.length c3], .slice (some ⟨w3.heap.size + 1, 0, none⟩) 2 2] wb (RetRow wb 97 1 3 (vlsV [.whole 7, .text ⟨#[97]⟩, .none])) := by
    have := schLift wb 1 2 _ c _ c3 2 2 A A3 (some ⟨w3.heap.size + 1, 0, none⟩) two three [.whole 7, .text ⟨#[97]⟩] ((hq3.below hbW).more hbW.size) ((hr3.below hbW).more hbW.size) (by rw [← hza]; exact hlit.more hsz) (by decide) (by decide)
    rw [lift_1] at this
    exact this
  refine hlift.mono ?_
  rintro e w4 ⟨vl, rfl, hown, hb4⟩
  obtain ⟨g, gc, rfl, _, hg2⟩ := hown.form (by decide)
  have hB4w : Below w3.heap.size w3 w4 := below_call hbW hbW.size hb4
  have ta4 := (hb4.cell (p := ⟨w3.heap.size, 0, none⟩) zt).trans ta
  have tb4 := (hb4.cell (p := ⟨w3.heap.size, 1, none⟩) zt).trans tb
  have hr4 := hr3.below hB4w
  have sa4 := (hB4w.cell (p := ⟨bs, 0, none⟩) z3).trans sa
  have sb4 := (hB4w.cell (p := ⟨bs, 1, none⟩) z3).trans sb
  have z4 : bs < w4.heap.size := Nat.lt_of_lt_of_le z3 hB4w.size
  have zne4 : bs ≠ w4.heap.size := Nat.ne_of_lt z4
  have hq4 := (hq3.below hB4w).more hB4w.size
  have hB4 : Below w.heap.size w w4 := below_call hB3 hB3.size hB4w
  have gcell : w4.cell? ⟨g, 2, none⟩ = some .nilIface := by rw [hown.cellAt 2 (by decide)]; rfl
  obtain ⟨b3, o3, rfl, hb3, q0, _, _, _⟩ := hr4.fd (k := 2) (by decide)
  have hid3 : ((three.getD 2 default).id.toNat : Int) = 3 := by decide +kernel
  rw [hid3] at q0
  have hl3 : three.length = 3 := rfl
  rw [hl3] at tb4
  generalize w3.heap.size = bt at *
  clear hlift cs y1 hwa hwb hlit hbl hza hsz hbW ta tb zt hown hr3 hq3 hr4 hB4w hb4 sa sb z3 zne hB3 hid3
  go_wp2_with fail
  have hlit4 := Rd.lit w4 (n := 2) (sz := 1) 97 #[.iface 2 (.int .i64 7), .nilIface] rfl (by decide)
  have hbx4 := (Below.refl w4.heap.size w4).alloc (Nat.le_refl _) (.cells #[.iface 2 (.int .i64 7), .nilIface] 97)
  generalize hwx4 : w4.alloc (.cells #[.iface 2 (.int .i64 7), .nilIface] 97) = wx4 at *
  have hsx4 : w4.heap.size + 1 ≤ wx4.heap.size := by rw [← hwx4]; simp
  have hfit4 : Calls Try.prog 20 #[.agg #[.int .u32 1, .slice A two.length c], .slice (some ⟨w4.heap.size, 0, none⟩) 2 2] wx4 fun e w' => e = .returned (.int .i64 0) ∧ Below wx4.heap.size wx4 w' := by
    have := schFit wx4 1 _ c A two ((hq4.below hbx4).more hbx4.size) 2 2 _ [.whole 7, .none] (hlit4.more hsx4)
    rw [fit_1] at this
    exact this
  refine hfit4.mono ?_
  rintro e w5 ⟨rfl, hb4⟩
  have hbb4 : Below w4.heap.size w4 w5 := below_call hbx4 hbx4.size hb4
  clear hfit4 hlit4 hbx4 hwx4 hsx4 hb4
  have sa5 := (hbb4.cell (p := ⟨bs, 0, none⟩) z4).trans sa4
  have sb5 := (hbb4.cell (p := ⟨bs, 1, none⟩) z4).trans sb4
  have z5 : bs < w5.heap.size := Nat.lt_of_lt_of_le z4 hbb4.size
  have g5 := (hbb4.cell (p := ⟨g, 2, none⟩) hg2).trans gcell
  have hg5 : g < w5.heap.size := Nat.lt_of_lt_of_le hg2 hbb4.size
  have hq5 := (hq4.below hbb4).more hbb4.size
  have hB5 : Below w.heap.size w w5 := below_call hB4 hB4.size hbb4
  clear sa4 sb4 z4 zne4 gcell hg2 hq4 hB4 hbb4 ta4 tb4 q0
  go_wp2_with fail
  have hlit5 := Rd.lit w5 (n := 2) (sz := 1) 97 #[.nilIface, .iface 9 (.string ⟨#[97]⟩)] rfl (by decide)
  have hbx5 := (Below.refl w5.heap.size w5).alloc (Nat.le_refl _) (.cells #[.nilIface, .iface 9 (.string ⟨#[97]⟩)] 97)
  generalize hwx5 : w5.alloc (.cells #[.nilIface, .iface 9 (.string ⟨#[97]⟩)] 97) = wx5 at *
  have hsx5 : w5.heap.size + 1 ≤ wx5.heap.size := by rw [← hwx5]; simp
  have hfit5 : Calls Try.prog 20 #[.agg #[.int .u32 1, .slice A two.length c], .slice (some ⟨w5.heap.size, 0, none⟩) 2 2] wx5 fun e w' => e = .returned (.int .i64 82) ∧ Below wx5.heap.size wx5 w' := by
    have := schFit wx5 1 _ c A two ((hq5.below hbx5).more hbx5.size) 2 2 _ [.none, .text ⟨#[97]⟩] (hlit5.more hsx5)
    rw [fit_2] at this
    exact this
  refine hfit5.mono ?_
  rintro e w6 ⟨rfl, hb5⟩
  have hbb5 : Below w5.heap.size w5 w6 := below_call hbx5 hbx5.size hb5
  clear hfit5 hlit5 hbx5 hwx5 hsx5 hb5
  have sa6 := (hbb5.cell (p := ⟨bs, 0, none⟩) z5).trans sa5
  have sb6 := (hbb5.cell (p := ⟨bs, 1, none⟩) z5).trans sb5
  have z6 : bs < w6.heap.size := Nat.lt_of_lt_of_le z5 hbb5.size
  have g6 := (hbb5.cell (p := ⟨g, 2, none⟩) hg5).trans g5
  have hg6 : g < w6.heap.size := Nat.lt_of_lt_of_le hg5 hbb5.size
  have hq6 := (hq5.below hbb5).more hbb5.size
  have hB6 : Below w.heap.size w w6 := below_call hB5 hB5.size hbb5
  clear sa5 sb5 z5 g5 hg5 hq5 hB5 hbb5
  go_wp2_with fail
  have hlit6 := Rd.lit w6 (n := 2) (sz := 1) 97 #[.iface 2 (.int .i64 7), .iface 2 (.int .i64 8)] rfl (by decide)
  have hbx6 := (Below.refl w6.heap.size w6).alloc (Nat.le_refl _) (.cells #[.iface 2 (.int .i64 7), .iface 2 (.int .i64 8)] 97)
  generalize hwx6 : w6.alloc (.cells #[.iface 2 (.int .i64 7), .iface 2 (.int .i64 8)] 97) = wx6 at *
  have hsx6 : w6.heap.size + 1 ≤ wx6.heap.size := by rw [← hwx6]; simp
  have hfit6 : Calls Try.prog 20 #[.agg #[.int .u32 1, .slice A two.length c], .slice (some ⟨w6.heap.size, 0, none⟩) 2 2] wx6 fun e w' => e = .returned (.int .i64 10) ∧ Below wx6.heap.size wx6 w' := by
    have := schFit wx6 1 _ c A two ((hq6.below hbx6).more hbx6.size) 2 2 _ [.whole 7, .whole 8] (hlit6.more hsx6)
    rw [fit_3] at this
    exact this
  refine hfit6.mono ?_
  rintro e w7 ⟨rfl, hb6⟩
  have hbb6 : Below w6.heap.size w6 w7 := below_call hbx6 hbx6.size hb6
  clear hfit6 hlit6 hbx6 hwx6 hsx6 hb6
  have g7 := (hbb6.cell (p := ⟨g, 2, none⟩) hg6).trans g6
  have hB7 : Below w.heap.size w w7 := below_call hB6 hB6.size hbb6
  clear sa6 sb6 z6 g6 hg6 hq6 hB6 hbb6
  go_wp2_with fail
  go_ret
  exact ⟨rfl, hB7⟩
end Go.Proofs.Ytlccpchlclpnaaa
