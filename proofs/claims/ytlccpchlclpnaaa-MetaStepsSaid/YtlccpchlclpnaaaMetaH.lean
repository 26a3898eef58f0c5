/- THE WALK of meta's Shape. No statement of the seat is proved here; no condition. -/
import Derived.Test.YtlccpchlclpnaaaMetaG
namespace Go.Proofs.Ytlccpchlclpnaaa
open Go.RowKit

def slId (ss : List Sl) (i : Int) : UInt32 := if 0 ≤ i then (ss.getD i.toNat default).id else 0
def slFs (ss : List Sl) (i : Int) : List Fd := if 0 ≤ i then (ss.getD i.toNat default).fs else []
def ShapeEnd (w : World) (ss : List Sl) (i : Int) (e : Ending) (w' : World) : Prop :=
  ∃ F fc, e = .returned (.tuple #[.agg #[.int .u32 ((slId ss i).toNat : Int), .slice F (slFs ss i).length fc], .bool (decide (0 ≤ i))]) ∧ w'.ownsRow w.heap.size 96 4 (.slice F (slFs ss i).length fc) (slFs ss i).length (fdsV (slFs ss i)) ∧ Below w.heap.size w w'
theorem set2_keep' {W : World} {b : Nat} {p : Addr} {v : Option Value} (hne : p.block ≠ b) (h : W.cell? p = v) (x y : Value) : ((W.setCell ⟨b, 0, none⟩ x).setCell ⟨b, 1, none⟩ y).cell? p = v := by
  rw [World.cell?_setCell_other, World.cell?_setCell_other]
  · exact h
  · intro q; exact hne (by rw [← q])
  · intro q; exact hne (by rw [← q])
set_option maxRecDepth 100000 in
set_option maxHeartbeats 1000000 in
theorem metaShape (w : World) (sA : Option Addr) (sc : Nat) (ss : List Sl) (nA : Option Addr) (nc : Nat) (ns : List Nl) (cur : Nat) (hT : TabR w w.heap.size sA sc ss nA nc ns) (hmax : ss.length ≤ 1000000) (hm : ∀ s ∈ ss, s.fs.length ≤ 1000000) (id : UInt32) :
    Calls Try.prog 37 #[.agg #[.slice sA ss.length sc, .slice nA ns.length nc, .int .u64 (cur : Int)], .int .u32 (id.toNat : Int)] w (ShapeEnd w ss (cIx ss id)) := by
  go_enter Try.func37, Try.ntmps37
  go_wp2_with fail
  have x1 := boxN_new w #[.slice sA ss.length sc, .slice nA ns.length nc, .int .u64 (cur : Int)] 70
  have hb1 := (Below.refl w.heap.size w).alloc (Nat.le_refl _) (.cells #[.slice sA ss.length sc, .slice nA ns.length nc, .int .u64 (cur : Int)] 70)
  have hz1 : (w.alloc (.cells #[.slice sA ss.length sc, .slice nA ns.length nc, .int .u64 (cur : Int)] 70)).heap.size = w.heap.size + 1 := by simp
  generalize w.alloc (.cells #[.slice sA ss.length sc, .slice nA ns.length nc, .int .u64 (cur : Int)] 70) = w1 at *
  have x2 := boxN_new w1 #[.int .u32 (id.toNat : Int)] 22
  have hb2 := (Below.refl w1.heap.size w1).alloc (Nat.le_refl _) (.cells #[.int .u32 (id.toNat : Int)] 22)
  have hz2 : (w1.alloc (.cells #[.int .u32 (id.toNat : Int)] 22)).heap.size = w1.heap.size + 1 := by simp
  have x1b := x1.keep hb2 x1.z
  have hB2 := below_call hb1 hb1.size hb2
  generalize w1.alloc (.cells #[.int .u32 (id.toNat : Int)] 22) = w2 at *
  have x3 := boxN_new w2 #[.int .u32 0, .slice none 0 0] 25
  have hb3 := (Below.refl w2.heap.size w2).alloc (Nat.le_refl _) (.cells #[.int .u32 0, .slice none 0 0] 25)
  have hz3 : (w2.alloc (.cells #[.int .u32 0, .slice none 0 0] 25)).heap.size = w2.heap.size + 1 := by simp
  have x1c := x1b.keep hb3 x1b.z
  have x2c := x2.keep hb3 x2.z
  have hB3 := below_call hB2 hB2.size hb3
  generalize w2.alloc (.cells #[.int .u32 0, .slice none 0 0] 25) = w3 at *
  have hT3 := hT.later hB3
  rw [← hz1, ← hz2]
  have z12 : w.heap.size < w1.heap.size := by omega
  have z23 : w1.heap.size < w2.heap.size := by omega
  have z34 : w2.heap.size < w3.heap.size := by omega
  have hw1 : w.heap.size ≤ w2.heap.size := by omega
  generalize hb1e : w.heap.size = b1 at *
  generalize w1.heap.size = b2 at *
  generalize w2.heap.size = b3 at *
  have H1 := hide hb1e
  clear hz1 hz2 hz3 hb1 hb2 hb3 x1 x1b x2 hB2 hT hb1e
  refine (indexS w3 _ sc sA ss hT3.srow hmax 75 _ _ enter75 (predShape w3 b2 id x2c.z (x2c.cell 0 _ rfl))).mono ?_
  rintro e w4 ⟨rfl, hb4⟩
  obtain ⟨i, hi⟩ : ∃ i, i = cIx ss id := ⟨_, rfl⟩
  have hi2 := hi
  unfold cIx at hi2
  rw [← hi2]
  have HI := hide hi
  have HI2 := hide hi2
  have X1 := x1c.keep hb4 x1c.z
  have X3 := x3.keep hb4 x3.z
  have hT4 := hT3.later hb4
  have hB4 : Below b1 w w4 := hB3.trans (hb4.mono (by omega))
  have hz4 := hb4.size
  clear hi hi2 x1c x2c x3 hT3 hB3 hb4
  have t0 := X1.cell 0 _ rfl
  have g0 := X3.cell 0 _ rfl
  have k0 := X3.free 0 (by simp)
  have g1 := X3.cell 1 _ rfl
  have k1 := X3.free 1 (by simp)
  by_cases h0 : i < 0
  · have hd : decide (i < 0) = true := decide_eq_true h0
    have HS : Hid (slId ss i = 0 ∧ slFs ss i = [] ∧ decide (0 ≤ i) = false) := hide ⟨by unfold slId; rw [if_neg (by omega)], by unfold slFs; rw [if_neg (by omega)], decide_eq_false (by omega)⟩
    obtain ⟨q0, q1⟩ := set2 w4 b3 _ _ (.int .u32 0) (.slice none 0 0) g0 g1
    have HQ := hide (And.intro q0 q1)
    clear h0 X1 X3 hT4 q0 q1
    go_wp2_with fail
    (try simp only [Exit.inBlock, Exit.then])
    refine bodyPost_ret (ret_sch (b := b3) (x := .int .u32 0) (y := .slice none 0 0) rfl _ _ rfl HQ.out.1 HQ.out.2) rfl ?_
    rw [← HI.out]
    refine ⟨none, 0, ?_, ?_, ?_⟩
    · rw [HS.out.1, HS.out.2.1, HS.out.2.2]; rfl
    · rw [HS.out.2.1]; exact World.ownsRow_nil _ _ _ _
    · rw [H1.out]; exact below_set2 hB4 b3 hw1 _ _
  · have hd : decide (i < 0) = false := decide_eq_false h0
    obtain ⟨hk, hik, _⟩ := ixA_at HI2.out.symm (by omega)
    generalize i.toNat = k at hk hik
    subst hik
    obtain ⟨b, off, rfl, hb, f0, f1⟩ := hT4.srow.sl hk
    have hrd := hT4.s_at hk
    have hml := hm _ (getD_mem hk)
    have HS : Hid (slId ss (k : Int) = (ss.getD k default).id ∧ slFs ss (k : Int) = (ss.getD k default).fs ∧ decide ((0 : Int) ≤ (k : Int)) = true) := hide ⟨by unfold slId; rw [if_pos (by omega), Int.toNat_natCast], by unfold slFs; rw [if_pos (by omega), Int.toNat_natCast], decide_eq_true (by omega)⟩
    generalize ss.getD k default = f at *
    have HX := hide X3
    clear X1 X3 hT4 h0
    go_wp2_with fail
    have y5 := boxN_new w4 #[.int .u32 (f.id.toNat : Int), .slice f.A f.fs.length f.c] 25
    have hbA := (Below.refl w4.heap.size w4).alloc (Nat.le_refl _) (.cells #[.int .u32 (f.id.toNat : Int), .slice f.A f.fs.length f.c] 25)
    have X5 := HX.out.keep hbA HX.out.z
    have hrd5 := (hrd.below hbA).more hbA.size
    have hB5 : Below b1 w (w4.alloc (.cells #[.int .u32 (f.id.toNat : Int), .slice f.A f.fs.length f.c] 25)) := hB4.trans (hbA.mono (by omega))
    have hz35 : b3 < w4.heap.size := HX.out.z
    have hz45 : w4.heap.size < (w4.alloc (.cells #[.int .u32 (f.id.toNat : Int), .slice f.A f.fs.length f.c] 25)).heap.size := by simp
    generalize w4.alloc (.cells #[.int .u32 (f.id.toNat : Int), .slice f.A f.fs.length f.c] 25) = w5 at *
    generalize w4.heap.size = b7 at *
    clear t0 f0 f1 g0 g1 k0 k1 hbA hrd
    have s0 := y5.cell 0 _ rfl
    have s1 := y5.cell 1 _ rfl
    have g0 := X5.cell 0 _ rfl
    have g1 := X5.cell 1 _ rfl
    have k0 := X5.free 0 (by simp)
    have k1 := X5.free 1 (by simp)
    have n73 : b7 ≠ b3 := by omega
    have hz5 : b3 < w5.heap.size := by omega
    have hw5 : b1 ≤ w5.heap.size := by omega
    have HXY := hide (And.intro X5 y5)
    clear X5 y5
    go_region_held3 (fun w' => w'.cell? ⟨b7, 0, none⟩ = some (.int .u32 (f.id.toNat : Int)) ∧ w'.cell? ⟨b7, 1, none⟩ = some (.slice f.A f.fs.length f.c)) (first | exact ⟨s0', s1'⟩ | exact ⟨s0, s1⟩ | exact ⟨set2_keep' n73 s0' _ _, set2_keep' n73 s1' _ _⟩ | go_keep)
      (first | (go_at_call 55; refine (cloneF w5.drew w5.heap.size f.fs.length f.c f.A (fdsV f.fs) hrd5.drew (fdsV_one _) (by omega) (Nat.le_refl _)).mono ?_; rintro e w6 ⟨v6, rfl, hown6, hb6⟩; have hb6' := below_of_drew hb6; have X6 := HXY.out.1.keep hb6' HXY.out.1.z; have Y6 := HXY.out.2.keep hb6' HXY.out.2.z; have s0' := Y6.cell 0 _ rfl; have s1' := Y6.cell 1 _ rfl; have g0' := X6.cell 0 _ rfl; have g1' := X6.cell 1 _ rfl; have k0' := X6.free 0 (by simp); have k1' := X6.free 1 (by simp); have ho6 := Rd.of_own hown6; obtain ⟨A6, c6, rfl, _⟩ := ho6))
    all_goals (try go_wp2_with fail)
    all_goals (try simp only [Exit.inBlock, Exit.then])
    all_goals
      obtain ⟨q0, q1⟩ := set2 w6 b3 _ _ (.int .u32 (f.id.toNat : Int)) (.slice A6 f.fs.length c6) g0' g1'
      refine bodyPost_ret (ret_sch (b := b3) (x := .int .u32 (f.id.toNat : Int)) (y := .slice A6 f.fs.length c6) rfl _ _ rfl q0 q1) rfl ?_
      rw [← HI.out]
      refine ⟨A6, c6, ?_, ?_, ?_⟩
      · rw [HS.out.1, HS.out.2.1, HS.out.2.2]; rfl
      · rw [HS.out.2.1, H1.out]
        exact own_base (ownsRow_setCell_below (ownsRow_setCell_below hown6 (a := ⟨b3, 0, none⟩) hz5 _) (a := ⟨b3, 1, none⟩) hz5 _) hw5
      · rw [H1.out]; exact below_set2 (hB5.trans (hb6'.mono hw5)) b3 hw1 _ _
end Go.Proofs.Ytlccpchlclpnaaa
