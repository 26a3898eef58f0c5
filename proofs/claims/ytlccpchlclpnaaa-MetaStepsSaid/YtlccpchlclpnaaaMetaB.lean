/- THE WALK of the tables' stage: the document's examples. No statement of the seat is proved here; no condition. WORDS of MetaFinds: what is found, what the boxes hold. No statement of the seat is proved here; no condition. THE WALK of the document's Same at tables, where they hold the same. No statement of the seat is proved here. -/
import Derived.Test.YtlccpchlclpnaaaMetaDr
import Derived.Test.YtlccpchlclpnaaaMetaG
import Derived.Test.YtlccpchlclpnaaaAlive
import Derived.Test.YtlccpchlclpnaaaMetaH
namespace Go.Proofs.Ytlccpchlclpnaaa

section
open Go.RowKit

def sn1 : Sn := ⟨1, 0, 0, 5, 0, 1, []⟩
def sn2 : Sn := ⟨2, 0, 0, 4, 0, 1, []⟩
theorem le1 {α : Type} (x : α) : [x].length ≤ 1000000 := by simp
theorem two_le : two.length ≤ 1000000 := by decide
theorem ms_le : ([] : List ByteArray).length ≤ 1000000 := by decide
theorem push_1 : pushErr [(1, two)] [] sn1 = 0 := by decide +kernel
theorem push_2 : pushErr [(1, two)] [sn1] sn2 = 1 := by decide +kernel
theorem drop_1 : dropErr [sn1] 1 [1] = 1 := by decide +kernel
theorem push_ok {w : World} {ss : List Ps} {ns : List Sn} {p : Sn} (h : pushErr ss ns p = 0) : PushEnd w ss ns p = StepEnd w 0 ss (ns ++ [p]) p.id.toNat := by
  unfold PushEnd
  rw [if_pos h]
theorem push_bad {w : World} {ss : List Ps} {ns : List Sn} {p : Sn} (h : pushErr ss ns p = 1) : PushEnd w ss ns p = StepEnd w 1 [] [] 0 := by
  unfold PushEnd
  rw [h, if_neg (by decide)]
theorem one_map {α β : Type} {f : α → β} {l : List α} {b : β} (h : l.map f = [b]) : ∃ a, l = [a] ∧ f a = b := by
  match l, h with
  | [a], h => exact ⟨a, rfl, by simpa using h⟩
theorem step_one {w w' : World} {e : Ending} {s : Ps} {p : Sn} (h : StepEnd w 0 [s] [p] 1 e w') : ∃ sA sc x nA nc y, e = .returned (.tuple #[.agg #[.slice sA 1 sc, .slice nA 1 nc, .int .u64 1], .int .i64 0]) ∧ OwnT w' w.heap.size sA sc [x] nA nc [y] ∧ plS x = s ∧ plN y = p ∧ Below w.heap.size w w' := by
  obtain ⟨sA, sc, ss, nA, nc, ns, rfl, hO, h1, h2, hb⟩ := h
  obtain ⟨x, rfl, hx⟩ := one_map h1
  obtain ⟨y, rfl, hy⟩ := one_map h2
  exact ⟨sA, sc, x, nA, nc, y, rfl, hO, hx, hy, hb⟩
theorem step_two {w w' : World} {e : Ending} (h : StepEnd w 1 [] [] 0 e w') : ∃ sA n sc nA m nc, e = .returned (.tuple #[.agg #[.slice sA n sc, .slice nA m nc, .int .u64 0], .int .i64 1]) ∧ Below w.heap.size w w' := by
  obtain ⟨sA, sc, ss, nA, nc, ns, rfl, _, _, _, hb⟩ := h
  exact ⟨sA, _, sc, nA, _, nc, rfl, hb⟩
set_option maxRecDepth 100000 in
set_option maxHeartbeats 1000000 in
theorem alive14 (w : World) : Calls Try.prog 33 #[] w fun e w' => e = .returned (.bool true) ∧ Below w.heap.size w w' := by
  go_enter Try.func33, Try.ntmps33
  go_wp2_with fail
  refine (lawTwo w).mono ?_
  rintro e w1 ⟨v, rfl, ⟨A, c, rfl, hr1⟩, hb1⟩
  go_wp2_with fail
  have lit := Rd.lit w1 (n := 1) (sz := 2) 25 #[.int .u32 1, .slice A two.length c] rfl (by decide)
  have hba := (Below.refl w1.heap.size w1).alloc (Nat.le_refl _) (.cells #[.int .u32 1, .slice A two.length c] 25)
  have hza : (w1.alloc (.cells #[.int .u32 1, .slice A two.length c] 25)).heap.size = w1.heap.size + 1 := by simp
  generalize w1.alloc (.cells #[.int .u32 1, .slice A two.length c] 25) = wa at *
  have xt := boxN_new wa #[.slice (some ⟨w1.heap.size, 0, none⟩) 1 1, .slice none 0 0, .int .u64 0] 70
  have hbb := (Below.refl wa.heap.size wa).alloc (Nat.le_refl _) (.cells #[.slice (some ⟨w1.heap.size, 0, none⟩) 1 1, .slice none 0 0, .int .u64 0] 70)
  rw [← hza] at lit ⊢
  generalize wa.alloc (.cells #[.slice (some ⟨w1.heap.size, 0, none⟩) 1 1, .slice none 0 0, .int .u64 0] 70) = w2 at *
  have hB2 : Below w.heap.size w w2 := below_call (below_call hb1 hb1.size hba) (by have := hb1.size; omega) hbb
  have hT2 : TabR w2 w2.heap.size (some ⟨w1.heap.size, 0, none⟩) 1 [⟨1, two, A, c⟩] none 0 [] := by
    refine ⟨(lit.below hbb).more hbb.size, fun s hs => ?_, Rd.nil _ _ _, by simp⟩
    obtain rfl := List.mem_singleton.1 hs
    exact (((hr1.below hba).more hba.size).below hbb).more hbb.size
  generalize w1.heap.size = bl at *
  generalize wa.heap.size = bt at *
  clear lit hba hbb hza hr1 hb1
  have hnow : Calls Try.prog 35 #[.agg #[.slice (some ⟨bl, 0, none⟩) 1 1, .slice none 0 0, .int .u64 0]] w2 (SnapEnd w2 [] (-1)) := metaNow w2 (some ⟨bl, 0, none⟩) 1 [⟨1, two, A, c⟩] none 0 [] 0 hT2 (by decide) (by simp)
  refine hnow.mono ?_
  rintro e w3 ⟨A3, c3, rfl, _, hb3⟩
  have hd : decide ((0 : Int) ≤ -1) = false := rfl
  rw [hd]
  generalize snAt [] (-1) = q at *
  clear hd hnow
  have hbq := (Below.refl w3.heap.size w3).alloc (Nat.le_refl _) (.cells #[.int .u64 (q.id.toNat : Int), .int .u64 (q.par.toNat : Int), .int .u64 (q.seq.toNat : Int), .int .u64 (q.off.toNat : Int), .int .u64 (q.tim.toNat : Int), .int .u32 (q.sch.toNat : Int), .slice A3 q.ms.length c3] 73)
  have xt4 := (xt.keep hb3 xt.z).keep hbq (xt.keep hb3 xt.z).z
  have c0 := xt4.cell 0 _ rfl
  have c1 := xt4.cell 1 _ rfl
  have c2 := xt4.cell 2 _ rfl
  have hT4 := (hT2.later hb3).later hbq
  have hB4 : Below w.heap.size w _ := below_call (below_call hB2 hB2.size hb3) (by have := hB2.size; have := hb3.size; omega) hbq
  clear xt hT2 hB2 hb3 hbq
  go_wp2_with fail
  generalize w3.alloc (.cells #[.int .u64 (q.id.toNat : Int), .int .u64 (q.par.toNat : Int), .int .u64 (q.seq.toNat : Int), .int .u64 (q.off.toNat : Int), .int .u64 (q.tim.toNat : Int), .int .u32 (q.sch.toNat : Int), .slice A3 q.ms.length c3] 73) = w4 at *
  have hpush : Calls Try.prog 42 #[.agg #[.slice (some ⟨bl, 0, none⟩) 1 1, .slice none 0 0, .int .u64 0], .agg #[.int .u64 1, .int .u64 0, .int .u64 0, .int .u64 5, .int .u64 0, .int .u32 1, .slice none 0 0]] w4 (StepEnd w4 0 [(1, two)] [sn1] 1) := by
    rw [show StepEnd w4 0 [(1, two)] [sn1] 1 = PushEnd w4 [(1, two)] [] sn1 from (push_ok push_1).symm]
    exact metaPush w4 (some ⟨bl, 0, none⟩) 1 [⟨1, two, A, c⟩] none 0 [] 0 hT4 (le1 _) (by intro s hs; obtain rfl := List.mem_singleton.1 hs; exact two_le) (by decide) (by simp) sn1 none 0 (Rd.nil _ _ _) (by decide)
  refine hpush.mono ?_
  intro e w5 hs5
  obtain ⟨sA, sc, x, nA, nc, y, rfl, O5, hx, hy, hb5⟩ := step_one hs5
  obtain ⟨yp, yA, yc⟩ := y
  obtain rfl : yp = sn1 := hy
  clear c0 c1 c2 xt4 hT4 hpush hs5
  have x6 := boxN_new w5 #[.slice sA 1 sc, .slice nA 1 nc, .int .u64 1] 70
  have hb6 := (Below.refl w5.heap.size w5).alloc (Nat.le_refl _) (.cells #[.slice sA 1 sc, .slice nA 1 nc, .int .u64 1] 70)
  have c0 := x6.cell 0 _ rfl
  have c1 := x6.cell 1 _ rfl
  have c2 := x6.cell 2 _ rfl
  have O6 := O5.keep hb6
  have hB6 : Below w.heap.size w _ := below_call (below_call hB4 hB4.size hb5) (by have := hB4.size; have := hb5.size; omega) hb6
  go_wp2_with fail
  generalize w5.alloc (.cells #[.slice sA 1 sc, .slice nA 1 nc, .int .u64 1] 70) = w6 at *
  generalize w5.heap.size = bu at *
  clear O5 hb6 hb5 hB4 c0 c1 c2
  have hnow2 : Calls Try.prog 35 #[.agg #[.slice sA 1 sc, .slice nA 1 nc, .int .u64 1]] w6 (SnapEnd w6 [⟨sn1, yA, yc⟩] 0) := by
    have h := metaNow w6 sA sc [x] nA nc [⟨sn1, yA, yc⟩] 1 O6.tab (le1 _) (by intro s hs; obtain rfl := List.mem_singleton.1 hs; exact ms_le)
    exact h
  refine hnow2.mono ?_
  rintro e w7 ⟨A7, c7, rfl, _, hb7⟩
  have hd : decide ((0 : Int) ≤ 0) = true := rfl
  rw [hd]
  have hq : (.returned (.tuple #[.agg #[.int .u64 ((snAt [⟨sn1, yA, yc⟩] 0).id.toNat : Int), .int .u64 ((snAt [⟨sn1, yA, yc⟩] 0).par.toNat : Int), .int .u64 ((snAt [⟨sn1, yA, yc⟩] 0).seq.toNat : Int), .int .u64 ((snAt [⟨sn1, yA, yc⟩] 0).off.toNat : Int), .int .u64 ((snAt [⟨sn1, yA, yc⟩] 0).tim.toNat : Int), .int .u32 ((snAt [⟨sn1, yA, yc⟩] 0).sch.toNat : Int), .slice A7 (snAt [⟨sn1, yA, yc⟩] 0).ms.length c7], .bool true]) : Ending) = .returned (.tuple #[.agg #[.int .u64 1, .int .u64 0, .int .u64 0, .int .u64 5, .int .u64 0, .int .u32 1, .slice A7 0 c7], .bool true]) := rfl
  rw [hq]
  clear hd hnow2 hq
  have x8 := boxN_new w7 #[.int .u64 1, .int .u64 0, .int .u64 0, .int .u64 5, .int .u64 0, .int .u32 1, .slice A7 0 c7] 73
  have hb8 := (Below.refl w7.heap.size w7).alloc (Nat.le_refl _) (.cells #[.int .u64 1, .int .u64 0, .int .u64 0, .int .u64 5, .int .u64 0, .int .u32 1, .slice A7 0 c7] 73)
  have x6b := (x6.keep hb7 x6.z).keep hb8 (x6.keep hb7 x6.z).z
  have c0 := x6b.cell 0 _ rfl
  have c1 := x6b.cell 1 _ rfl
  have c2 := x6b.cell 2 _ rfl
  have O8 := (O6.keep hb7).keep hb8
  have hB8 : Below w.heap.size w _ := below_call (below_call hB6 hB6.size hb7) (by have := hB6.size; have := hb7.size; omega) hb8
  clear x6 O6 hB6 hb8
  go_wp2_with fail
  generalize w7.alloc (.cells #[.int .u64 1, .int .u64 0, .int .u64 0, .int .u64 5, .int .u64 0, .int .u32 1, .slice A7 0 c7] 73) = w8 at *
  generalize w7.heap.size = bq at *
  clear c0 c1 c2 hb7
  have hpush2 : Calls Try.prog 42 #[.agg #[.slice sA 1 sc, .slice nA 1 nc, .int .u64 1], .agg #[.int .u64 2, .int .u64 0, .int .u64 0, .int .u64 4, .int .u64 0, .int .u32 1, .slice none 0 0]] w8 (StepEnd w8 1 [] [] 0) := by
    have h := metaPush w8 sA sc [x] nA nc [⟨sn1, yA, yc⟩] 1 O8.tab (le1 _) (by intro s hs; obtain rfl := List.mem_singleton.1 hs; rw [show s.fs = two from congrArg Prod.snd hx]; exact two_le) (le1 _) (by intro s hs; obtain rfl := List.mem_singleton.1 hs; exact ms_le) sn2 none 0 (Rd.nil _ _ _) (by decide)
    rw [show [x].map plS = [(1, two)] by rw [← hx]; rfl, show ([⟨sn1, yA, yc⟩] : List Nl).map plN = [sn1] from rfl] at h
    rw [← push_bad push_2]
    exact h
  refine hpush2.mono ?_
  intro e w9 hs9
  obtain ⟨bA, bn, bc, dA, dn, dc, rfl, hb9⟩ := step_two hs9
  clear hpush2 hs9
  have hbT := (Below.refl w9.heap.size w9).alloc (Nat.le_refl _) (.cells #[.slice bA bn bc, .slice dA dn dc, .int .u64 0] 70)
  have x6c := (x6b.keep hb9 x6b.z).keep hbT (x6b.keep hb9 x6b.z).z
  have x8c := (x8.keep hb9 x8.z).keep hbT (x8.keep hb9 x8.z).z
  have c0 := x6c.cell 0 _ rfl
  have c1 := x6c.cell 1 _ rfl
  have c2 := x6c.cell 2 _ rfl
  have O9 := (O8.keep hb9).keep hbT
  have hB9 : Below w.heap.size w _ := below_call (below_call hB8 hB8.size hb9) (by have := hB8.size; have := hb9.size; omega) hbT
  clear x6b x8 O8 hB8 hb9 hbT
  have hzT : (w9.alloc (.cells #[.slice bA bn bc, .slice dA dn dc, .int .u64 0] 70)).heap.size = w9.heap.size + 1 := by simp
  go_wp2_with fail
  rw [← hzT]
  clear hzT
  generalize w9.alloc (.cells #[.slice bA bn bc, .slice dA dn dc, .int .u64 0] 70) = w10 at *
  have lit := Rd.lit w10 (n := 1) (sz := 1) 68 #[.int .u64 1] rfl (by decide)
  have hbU := (Below.refl w10.heap.size w10).alloc (Nat.le_refl _) (.cells #[.int .u64 1] 68)
  have hzU : (w10.alloc (.cells #[.int .u64 1] 68)).heap.size = w10.heap.size + 1 := by simp
  rw [← hzU] at lit
  have x8d := x8c.keep hbU x8c.z
  have O10 := O9.keep hbU
  have hB10 : Below w.heap.size w _ := below_call hB9 hB9.size hbU
  generalize w10.alloc (.cells #[.int .u64 1] 68) = w11 at *
  generalize w10.heap.size = bi at *
  clear c0 c1 c2 x6c x8c O9 hB9 hbU hzU
  have hdrop : Calls Try.prog 46 #[.agg #[.slice sA 1 sc, .slice nA 1 nc, .int .u64 1], .slice (some ⟨bi, 0, none⟩) 1 1] w11 (StepEnd w11 1 [] [] 0) := by
    have h := metaDropBad w11 sA sc [x] nA nc [⟨sn1, yA, yc⟩] 1 O10.tab (le1 _) (by intro s hs; obtain rfl := List.mem_singleton.1 hs; exact ms_le) [1] (some ⟨bi, 0, none⟩) 1 lit (by decide) (by rw [show ([⟨sn1, yA, yc⟩] : List Nl).map plN = [sn1] from rfl, drop_1]; decide)
    rw [show ([⟨sn1, yA, yc⟩] : List Nl).map plN = [sn1] from rfl, drop_1] at h
    exact h
  refine hdrop.mono ?_
  intro e w12 hs12
  obtain ⟨eA, en, ec, fA, fn, fc, rfl, hb12⟩ := step_two hs12
  clear hdrop hs12
  have hbV := (Below.refl w12.heap.size w12).alloc (Nat.le_refl _) (.cells #[.slice eA en ec, .slice fA fn fc, .int .u64 0] 70)
  have x8e := x8d.keep hb12 x8d.z
  have c3 := x8e.cell 3 _ rfl
  have z8e : bq < w12.heap.size := x8e.z
  have z8n : bq ≠ w12.heap.size := by omega
  have hB12 : Below w.heap.size w _ := below_call (below_call hB10 hB10.size hb12) (by have := hB10.size; have := hb12.size; omega) hbV
  clear x8d x8e O10 hB10 hb12 hbV lit
  go_wp2_with fail
  go_ret
  exact ⟨rfl, hB12⟩
end

section
open Go.RowKit

def SnPick (ns : List Nl) (i : Int) (b : Bool) (q : Sn) : Prop := (∃ k : Nat, i = (k : Int) ∧ b = true ∧ k < ns.length ∧ q = (ns.getD k default).p) ∨ (i = -1 ∧ b = false ∧ q = default)
def ShPick (ss : List Sl) (i : Int) (b : Bool) (id : UInt32) (fs : List Fd) : Prop := (∃ k : Nat, i = (k : Int) ∧ b = true ∧ k < ss.length ∧ id = (ss.getD k default).id ∧ fs = (ss.getD k default).fs) ∨ (i = -1 ∧ b = false ∧ id = 0 ∧ fs = [])
theorem ixA_cases {α : Type} [Inhabited α] (p : α → Bool) (l : List α) : (∃ k : Nat, ixA p l = (k : Int) ∧ k < l.length) ∨ ixA p l = -1 := by
  unfold ixA
  split
  · rename_i ha
    exact .inl ⟨_, rfl, List.findIdx_lt_length_of_exists (p := p) (xs := l) (by simpa using ha)⟩
  · exact .inr rfl
theorem snPick_miss (ns : List Nl) : SnPick ns (-1) (decide ((0 : Int) ≤ -1)) (snAt ns (-1)) := .inr ⟨rfl, rfl, rfl⟩
theorem snPick_six (ns : List Nl) (id : UInt64) : SnPick ns (sIx ns id) (decide (0 ≤ sIx ns id)) (snAt ns (sIx ns id)) := by
  rcases ixA_cases (fun f : Nl => (f.p.id.toNat : Int) == (id.toNat : Int)) ns with ⟨k, h, hk⟩ | h
  · have h' : sIx ns id = (k : Int) := h
    rw [h']
    exact .inl ⟨k, rfl, by simp, hk, by unfold snAt; rw [if_pos (by omega), Int.toNat_natCast]⟩
  · have h' : sIx ns id = -1 := h
    rw [h']
    exact snPick_miss ns
theorem snPick_now (ns : List Nl) (cur : UInt64) : SnPick ns (nowIx ns cur) (decide (0 ≤ nowIx ns cur)) (snAt ns (nowIx ns cur)) := by
  unfold nowIx
  split
  · exact snPick_miss ns
  · exact snPick_six ns cur
theorem shPick_cix (ss : List Sl) (id : UInt32) : ShPick ss (cIx ss id) (decide (0 ≤ cIx ss id)) (slId ss (cIx ss id)) (slFs ss (cIx ss id)) := by
  rcases ixA_cases (fun f : Sl => (f.id.toNat : Int) == (id.toNat : Int)) ss with ⟨k, h, hk⟩ | h
  · have h' : cIx ss id = (k : Int) := h
    rw [h']
    exact .inl ⟨k, rfl, by simp, hk, by unfold slId; rw [if_pos (by omega), Int.toNat_natCast], by unfold slFs; rw [if_pos (by omega), Int.toNat_natCast]⟩
  · have h' : cIx ss id = -1 := h
    rw [h']
    exact .inr ⟨rfl, rfl, rfl, rfl⟩
/-- what the boxes hold -/
structure FindB (w : World) (bx b7 b9 b11 : Nat) (sA : Option Addr) (sc : Nat) (ss : List Sl) (nA : Option Addr) (nc : Nat) (ns : List Nl) (cur : Nat) (q1 : Sn) (A1 : Option Addr) (c1 : Nat) (q2 : Sn) (A2 : Option Addr) (c2 : Nat) (sid : UInt32) (sfs : List Fd) (F : Option Addr) (fc : Nat) : Prop where
  X : BoxN w bx #[.slice sA ss.length sc, .slice nA ns.length nc, .int .u64 (cur : Int)].toList
  Y1 : BoxN w b7 #[.int .u64 (q1.id.toNat : Int), .int .u64 (q1.par.toNat : Int), .int .u64 (q1.seq.toNat : Int), .int .u64 (q1.off.toNat : Int), .int .u64 (q1.tim.toNat : Int), .int .u32 (q1.sch.toNat : Int), .slice A1 q1.ms.length c1].toList
  Y2 : BoxN w b9 #[.int .u64 (q2.id.toNat : Int), .int .u64 (q2.par.toNat : Int), .int .u64 (q2.seq.toNat : Int), .int .u64 (q2.off.toNat : Int), .int .u64 (q2.tim.toNat : Int), .int .u32 (q2.sch.toNat : Int), .slice A2 q2.ms.length c2].toList
  Y3 : BoxN w b11 [.int .u32 (sid.toNat : Int), .slice F sfs.length fc]
  T : TabR w w.heap.size sA sc ss nA nc ns
  r1 : Rd w w.heap.size 1 A1 q1.ms.length c1 (strsV q1.ms)
  r2 : Rd w w.heap.size 1 A2 q2.ms.length c2 (strsV q2.ms)
  r3 : Rd w w.heap.size 4 F sfs.length fc (fdsV sfs)
section
variable {w w' : World} {bx b7 b9 b11 : Nat} {sA : Option Addr} {sc : Nat} {ss : List Sl} {nA : Option Addr} {nc : Nat} {ns : List Nl} {cur : Nat} {q1 : Sn} {A1 : Option Addr} {c1 : Nat} {q2 : Sn} {A2 : Option Addr} {c2 : Nat} {sid : UInt32} {sfs : List Fd} {F : Option Addr} {fc : Nat}
theorem FindB.keep (h : FindB w bx b7 b9 b11 sA sc ss nA nc ns cur q1 A1 c1 q2 A2 c2 sid sfs F fc) (hb : Below w.heap.size w w') : FindB w' bx b7 b9 b11 sA sc ss nA nc ns cur q1 A1 c1 q2 A2 c2 sid sfs F fc :=
  ⟨h.X.keep hb h.X.z, h.Y1.keep hb h.Y1.z, h.Y2.keep hb h.Y2.z, h.Y3.keep hb h.Y3.z, h.T.later hb, (h.r1.below hb).more hb.size, (h.r2.below hb).more hb.size, (h.r3.below hb).more hb.size⟩
end
theorem snEq_self (p : Sn) : snEq p p = true := by
  unfold snEq
  simp [txEq]
theorem sameSch_self (id : UInt32) (l : List Fd) : sameSch id id l l = true := by
  unfold sameSch
  simp [fdEq]
/-- the same snapshot -/
theorem sameSnapT (w : World) (p : Sn) (A1 A2 : Option Addr) (c1 c2 : Nat) (hr1 : Rd w w.heap.size 1 A1 p.ms.length c1 (strsV p.ms)) (q : Sn) (hr2 : Rd w w.heap.size 1 A2 q.ms.length c2 (strsV q.ms)) (hq : p = q) :
    Calls Try.prog 40 #[.agg #[.int .u64 (p.id.toNat : Int), .int .u64 (p.par.toNat : Int), .int .u64 (p.seq.toNat : Int), .int .u64 (p.off.toNat : Int), .int .u64 (p.tim.toNat : Int), .int .u32 (p.sch.toNat : Int), .slice A1 p.ms.length c1], .agg #[.int .u64 (q.id.toNat : Int), .int .u64 (q.par.toNat : Int), .int .u64 (q.seq.toNat : Int), .int .u64 (q.off.toNat : Int), .int .u64 (q.tim.toNat : Int), .int .u32 (q.sch.toNat : Int), .slice A2 q.ms.length c2]] w (RetVal w (.bool true)) := by
  subst hq
  have h := refSameSnap w p p A1 A2 c1 c2 hr1 hr2
  rw [snEq_self] at h
  exact h
theorem sameSnap0 (w : World) (p : Sn) (A1 : Option Addr) (c1 : Nat) (hr1 : Rd w w.heap.size 1 A1 p.ms.length c1 (strsV p.ms)) (hq : p = default) :
    Calls Try.prog 40 #[.agg #[.int .u64 (p.id.toNat : Int), .int .u64 (p.par.toNat : Int), .int .u64 (p.seq.toNat : Int), .int .u64 (p.off.toNat : Int), .int .u64 (p.tim.toNat : Int), .int .u32 (p.sch.toNat : Int), .slice A1 p.ms.length c1], .agg #[.int .u64 0, .int .u64 0, .int .u64 0, .int .u64 0, .int .u64 0, .int .u32 0, .slice none 0 0]] w (RetVal w (.bool true)) :=
  sameSnapT w p A1 none c1 0 hr1 default (Rd.nil _ _ _) hq
theorem sameSchT (w : World) (i1 i2 : UInt32) (A1 A2 : Option Addr) (c1 c2 : Nat) (l1 l2 : List Fd) (hr1 : Rd w w.heap.size 4 A1 l1.length c1 (fdsV l1)) (hr2 : Rd w w.heap.size 4 A2 l2.length c2 (fdsV l2)) (hi : i1 = i2) (hl : l1 = l2) :
    Calls Try.prog 17 #[.agg #[.int .u32 (i1.toNat : Int), .slice A1 l1.length c1], .agg #[.int .u32 (i2.toNat : Int), .slice A2 l2.length c2]] w (RetVal w (.bool true)) := by
  subst hi hl
  have h := refSame w i1 i1 l1.length c1 l1.length c2 A1 A2 l1 l1 hr1 hr2
  rw [sameSch_self] at h
  exact h
theorem sameSch0 (w : World) (i1 : UInt32) (A1 : Option Addr) (c1 : Nat) (l1 : List Fd) (hr1 : Rd w w.heap.size 4 A1 l1.length c1 (fdsV l1)) (hi : i1 = 0) (hl : l1 = []) :
    Calls Try.prog 17 #[.agg #[.int .u32 (i1.toNat : Int), .slice A1 l1.length c1], .agg #[.int .u32 0, .slice none 0 0]] w (RetVal w (.bool true)) :=
  sameSchT w i1 0 A1 none c1 0 l1 [] hr1 (Rd.nil _ _ _) hi hl
end

section
open Go.RowKit

theorem map_at {α β : Type} [Inhabited α] {f : α → β} {l1 l2 : List α} (h : l1.map f = l2.map f) {k : Nat} (h1 : k < l1.length) (h2 : k < l2.length) : f (l1.getD k default) = f (l2.getD k default) := by
  have := congrArg (fun l => l[k]?) h
  simp only [List.getElem?_map] at this
  simpa [List.getD, h1, h2] using this
set_option maxRecDepth 100000 in
set_option maxHeartbeats 4000000 in
theorem refSameT (w : World) (sA tA : Option Addr) (sc tc : Nat) (ss ts : List Sl) (nA mA : Option Addr) (nc mc : Nat) (ns ms : List Nl) (cur : Nat) (hT : TabR w w.heap.size sA sc ss nA nc ns) (hU : TabR w w.heap.size tA tc ts mA mc ms) (hs : ss.map plS = ts.map plS) (hn : ns.map plN = ms.map plN) :
    Calls Try.prog 48 #[.agg #[.slice sA ss.length sc, .slice nA ns.length nc, .int .u64 (cur : Int)], .agg #[.slice tA ts.length tc, .slice mA ms.length mc, .int .u64 (cur : Int)]] w (RetVal w (.bool true)) := by
  have hl1 : ss.length = ts.length := by have := congrArg List.length hs; simpa using this
  have hl2 : ns.length = ms.length := by have := congrArg List.length hn; simpa using this
  rw [← hl1, ← hl2]
  have HL := hide (And.intro hl1 hl2)
  have HM := hide (And.intro hs hn)
  have hcap1 : ss.length ≤ 9223372036854775807 := by have h1 := hT.srow.le; have h2 := hT.srow.cap; unfold maxLen at h2; omega
  have hcap2 : ns.length ≤ 9223372036854775807 := by have h1 := hT.nrow.le; have h2 := hT.nrow.cap; unfold maxLen at h2; omega
  clear hl1 hl2 hs hn
  go_enter Try.func48, Try.ntmps48
  go_wp2_with fail
  have x1 := boxN_new w #[.slice sA ss.length sc, .slice nA ns.length nc, .int .u64 (cur : Int)] 70
  have hb1 := (Below.refl w.heap.size w).alloc (Nat.le_refl _) (.cells #[.slice sA ss.length sc, .slice nA ns.length nc, .int .u64 (cur : Int)] 70)
  have hz1 : (w.alloc (.cells #[.slice sA ss.length sc, .slice nA ns.length nc, .int .u64 (cur : Int)] 70)).heap.size = w.heap.size + 1 := by simp
  generalize w.alloc (.cells #[.slice sA ss.length sc, .slice nA ns.length nc, .int .u64 (cur : Int)] 70) = w1 at *
  have x2 := boxN_new w1 #[.slice tA ss.length tc, .slice mA ns.length mc, .int .u64 (cur : Int)] 70
  have hb2 := (Below.refl w1.heap.size w1).alloc (Nat.le_refl _) (.cells #[.slice tA ss.length tc, .slice mA ns.length mc, .int .u64 (cur : Int)] 70)
  have x1b := x1.keep hb2 x1.z
  have hB2 := below_call hb1 hb1.size hb2
  rw [← hz1]
  generalize w1.alloc (.cells #[.slice tA ss.length tc, .slice mA ns.length mc, .int .u64 (cur : Int)] 70) = w2 at *
  have hT2 := hT.later hB2
  have hU2 := hU.later hB2
  have z1 : w.heap.size < w2.heap.size := x1b.z
  obtain ⟨bx, hbx⟩ : ∃ b, b = w.heap.size := ⟨_, rfl⟩
  have HB2 : Hid (Below bx w w2) := hide (by rw [hbx]; exact hB2)
  have HBX := hide hbx
  rw [← hbx] at x1b z1 ⊢
  generalize w1.heap.size = by_ at *
  clear hz1 hT hU hb1 hb2 x1 hB2 hbx
  have zx := x1b.z
  have zy := x2.z
  have c0 := x1b.cell 0 _ rfl
  have d0 := x2.cell 0 _ rfl
  go_wp2_with fail
  skip
  go_loopw [5] (fun iv wr => ∃ k : Nat, iv = .int .i64 (k : Int) ∧ k ≤ ss.length ∧ Below w2.heap.size w2 wr) (fun iv _ => ss.length - (intOf iv).toNat)
  case atStart => exact ⟨0, rfl, Nat.zero_le _, Below.refl _ _⟩
  case round =>
    skip
    obtain ⟨k, rfl, hk, hbr⟩ := hrel
    have X1 := x1b.keep hbr zx
    have X2 := x2.keep hbr zy
    have k0 := X1.cell 0 _ rfl
    have m0 := X2.cell 0 _ rfl
    have zbr := hbr.size
    by_cases hlt : k < ss.length
    · have hlt2 : k < ts.length := by have := HL.out; omega
      have hTr := hT2.later hbr
      have hUr := hU2.later hbr
      have he := map_at HM.out.1 hlt hlt2
      obtain ⟨b1, o1, hA1, hd1, a0, a1⟩ := hTr.srow.sl hlt
      obtain ⟨b2, o2, hA2, hd2, d0, d1⟩ := hUr.srow.sl hlt2
      have r1 := hTr.s_at hlt
      have r2 := hUr.s_at hlt2
      rw [hA1] at k0
      rw [hA2] at m0
      generalize ss.getD k default = f1 at *
      generalize ts.getD k default = f2 at *
      have HE : Hid (f1.id = f2.id ∧ f1.fs = f2.fs) := hide (⟨congrArg Prod.fst he, congrArg Prod.snd he⟩)
      have zb := X1.z
      have zc := X2.z
      clear hTr hUr hA1 hA2 he
      go_wp2_with fail
      refine wp_region_abs ext_grow (by kernel_rfl) (by kernel_rfl) ?_
      simp only [List.map_cons, List.map_nil]
      refine wpA_value ext_grow ?_ (fun _ _ h => by cases h) rfl rfl ?_ ?_
      rotate_left 1
      · intro w' hw' C hC
        go_simp
        try go_bits
        exact hC
      simp only [putS, List.set_cons_succ, List.set_cons_zero]
      refine wpA_value ext_grow ?_ (fun _ _ h => by cases h) rfl rfl ?_ ?_
      rotate_left 1
      · intro w' hw' C hC
        have v0 := (hw'.cell (p := ⟨bx, 0, none⟩) zb).trans k0
        go_simp
        try go_bits
        exact hC
      simp only [putS, List.set_cons_succ, List.set_cons_zero]
      refine wpA_value ext_grow ?_ (fun _ _ h => by cases h) rfl rfl ?_ ?_
      rotate_left 1
      · intro w' hw' C hC
        go_simp
        try go_bits
        exact hC
      simp only [putS, List.set_cons_succ, List.set_cons_zero]
      refine wpA_value ext_grow ?_ (fun _ _ h => by cases h) rfl rfl ?_ ?_
      rotate_left 1
      · intro w' hw' C hC
        go_simp
        try go_bits
        exact hC
      simp only [putS, List.set_cons_succ, List.set_cons_zero]
      refine wpA_value ext_grow ?_ (fun _ _ h => by cases h) rfl rfl ?_ ?_
      rotate_left 1
      · intro w' hw' C hC
        have v0 := (hw'.cell (p := ⟨b1, o1 + k * 2, none⟩) hd1).trans a0
        have v1 := (hw'.cell (p := ⟨b1, o1 + k * 2 + 1, none⟩) hd1).trans a1
        go_simp
        try go_bits
        exact hC
      simp only [putS, List.set_cons_succ, List.set_cons_zero]
      refine wpA_value ext_grow ?_ (fun _ _ h => by cases h) rfl rfl ?_ ?_
      rotate_left 1
      · intro w' hw' C hC
        go_simp
        try go_bits
        exact hC
      simp only [putS, List.set_cons_succ, List.set_cons_zero]
      refine wpA_value ext_grow ?_ (fun _ _ h => by cases h) rfl rfl ?_ ?_
      rotate_left 1
      · intro w' hw' C hC
        have v0 := (hw'.cell (p := ⟨by_, 0, none⟩) zc).trans m0
        go_simp
        try go_bits
        exact hC
      simp only [putS, List.set_cons_succ, List.set_cons_zero]
      refine wpA_value ext_grow ?_ (fun _ _ h => by cases h) rfl rfl ?_ ?_
      rotate_left 1
      · intro w' hw' C hC
        go_simp
        try go_bits
        exact hC
      simp only [putS, List.set_cons_succ, List.set_cons_zero]
      refine wpA_value ext_grow ?_ (fun _ _ h => by cases h) rfl rfl ?_ ?_
      rotate_left 1
      · intro w' hw' C hC
        go_simp
        try go_bits
        exact hC
      simp only [putS, List.set_cons_succ, List.set_cons_zero]
      refine wpA_value ext_grow ?_ (fun _ _ h => by cases h) rfl rfl ?_ ?_
      rotate_left 1
      · intro w' hw' C hC
        have v0 := (hw'.cell (p := ⟨b2, o2 + k * 2, none⟩) hd2).trans d0
        have v1 := (hw'.cell (p := ⟨b2, o2 + k * 2 + 1, none⟩) hd2).trans d1
        go_simp
        try go_bits
        exact hC
      simp only [putS, List.set_cons_succ, List.set_cons_zero]
      refine wpA_known (.is (.bool true)) (fun _ _ h => by cases h) rfl rfl (mono_is _) (fun w' hw' => ?_) ?_
      · go_simp
        exact ⟨Below.refl _ _, (sameSchT w' f1.id f2.id f1.A f2.A f1.c f2.c f1.fs f2.fs ((r1.drew.below hw').more hw'.size) ((r2.drew.below hw').more hw'.size) HE.out.1 HE.out.2).mono fun e w'' h => is_ret (h.1) h.2⟩
      simp only [putS, List.set_cons_succ, List.set_cons_zero]
      refine wpA_value ext_grow ?_ (fun _ _ h => by cases h) rfl rfl ?_ ?_
      rotate_left 1
      · intro w' hw' C hC
        go_simp
        try go_bits
        exact hC
      simp only [putS, List.set_cons_succ, List.set_cons_zero]
      intro wd hwd
      simp only [openS]
      have hbd := below_of_drew hwd
      go_wp2_with fail
      go_roundw
      case rel => exact ⟨k + 1, by go_num, hlt, below_call hbr hbr.size hbd⟩
      case measure => simp [intOf]; omega
    · skip
      skip
      skip
      go_wp2_with fail
      clear c0 d0 hk hlt k0 m0
      go_loopw [6] (fun iv wr => ∃ k : Nat, iv = .int .i64 (k : Int) ∧ k ≤ ns.length ∧ Below w2.heap.size w2 wr) (fun iv _ => ns.length - (intOf iv).toNat)
      case atStart => exact ⟨0, rfl, Nat.zero_le _, hbr⟩
      case round =>
        clear hbr X1 X2
        obtain ⟨k, rfl, hk, hbr⟩ := hrel
        have X1 := x1b.keep hbr zx
        have X2 := x2.keep hbr zy
        have k1 := X1.cell 1 _ rfl
        have m1 := X2.cell 1 _ rfl
        have zbr := hbr.size
        by_cases hlt : k < ns.length
        · have hlt2 : k < ms.length := by have := HL.out; omega
          have hTr := hT2.later hbr
          have hUr := hU2.later hbr
          have he := map_at HM.out.2 hlt hlt2
          obtain ⟨b1, o1, hA1, hd1, a0, a1, a2, a3, a4, a5, a6⟩ := hTr.nrow.nl hlt
          obtain ⟨b2, o2, hA2, hd2, d0, d1, d2, d3, d4, d5, d6⟩ := hUr.nrow.nl hlt2
          have r1 := hTr.n_at hlt
          have r2 := hUr.n_at hlt2
          rw [hA1] at k1
          rw [hA2] at m1
          generalize ns.getD k default = f1 at *
          generalize ms.getD k default = f2 at *
          have HE : Hid (f1.p = f2.p) := hide (he)
          have zb := X1.z
          have zc := X2.z
          clear hTr hUr hA1 hA2 he
          go_wp2_with fail
          refine wp_region_abs ext_grow (by kernel_rfl) (by kernel_rfl) ?_
          simp only [List.map_cons, List.map_nil]
          refine wpA_value ext_grow ?_ (fun _ _ h => by cases h) rfl rfl ?_ ?_
          rotate_left 1
          · intro w' hw' C hC
            go_simp
            try go_bits
            exact hC
          simp only [putS, List.set_cons_succ, List.set_cons_zero]
          refine wpA_value ext_grow ?_ (fun _ _ h => by cases h) rfl rfl ?_ ?_
          rotate_left 1
          · intro w' hw' C hC
            have v0 := (hw'.cell (p := ⟨bx, 1, none⟩) zb).trans k1
            go_simp
            try go_bits
            exact hC
          simp only [putS, List.set_cons_succ, List.set_cons_zero]
          refine wpA_value ext_grow ?_ (fun _ _ h => by cases h) rfl rfl ?_ ?_
          rotate_left 1
          · intro w' hw' C hC
            go_simp
            try go_bits
            exact hC
          simp only [putS, List.set_cons_succ, List.set_cons_zero]
          refine wpA_value ext_grow ?_ (fun _ _ h => by cases h) rfl rfl ?_ ?_
          rotate_left 1
          · intro w' hw' C hC
            go_simp
            try go_bits
            exact hC
          simp only [putS, List.set_cons_succ, List.set_cons_zero]
          refine wpA_value ext_grow ?_ (fun _ _ h => by cases h) rfl rfl ?_ ?_
          rotate_left 1
          · intro w' hw' C hC
            have v0 := (hw'.cell (p := ⟨b1, o1 + k * 7, none⟩) hd1).trans a0
            have v1 := (hw'.cell (p := ⟨b1, o1 + k * 7 + 1, none⟩) hd1).trans a1
            have v2 := (hw'.cell (p := ⟨b1, o1 + k * 7 + 2, none⟩) hd1).trans a2
            have v3 := (hw'.cell (p := ⟨b1, o1 + k * 7 + 3, none⟩) hd1).trans a3
            have v4 := (hw'.cell (p := ⟨b1, o1 + k * 7 + 4, none⟩) hd1).trans a4
            have v5 := (hw'.cell (p := ⟨b1, o1 + k * 7 + 5, none⟩) hd1).trans a5
            have v6 := (hw'.cell (p := ⟨b1, o1 + k * 7 + 6, none⟩) hd1).trans a6
            go_simp
            try go_bits
            exact hC
          simp only [putS, List.set_cons_succ, List.set_cons_zero]
          refine wpA_value ext_grow ?_ (fun _ _ h => by cases h) rfl rfl ?_ ?_
          rotate_left 1
          · intro w' hw' C hC
            go_simp
            try go_bits
            exact hC
          simp only [putS, List.set_cons_succ, List.set_cons_zero]
          refine wpA_value ext_grow ?_ (fun _ _ h => by cases h) rfl rfl ?_ ?_
          rotate_left 1
          · intro w' hw' C hC
            have v0 := (hw'.cell (p := ⟨by_, 1, none⟩) zc).trans m1
            go_simp
            try go_bits
            exact hC
          simp only [putS, List.set_cons_succ, List.set_cons_zero]
          refine wpA_value ext_grow ?_ (fun _ _ h => by cases h) rfl rfl ?_ ?_
          rotate_left 1
          · intro w' hw' C hC
            go_simp
            try go_bits
            exact hC
          simp only [putS, List.set_cons_succ, List.set_cons_zero]
          refine wpA_value ext_grow ?_ (fun _ _ h => by cases h) rfl rfl ?_ ?_
          rotate_left 1
          · intro w' hw' C hC
            go_simp
            try go_bits
            exact hC
          simp only [putS, List.set_cons_succ, List.set_cons_zero]
          refine wpA_value ext_grow ?_ (fun _ _ h => by cases h) rfl rfl ?_ ?_
          rotate_left 1
          · intro w' hw' C hC
            have v0 := (hw'.cell (p := ⟨b2, o2 + k * 7, none⟩) hd2).trans d0
            have v1 := (hw'.cell (p := ⟨b2, o2 + k * 7 + 1, none⟩) hd2).trans d1
            have v2 := (hw'.cell (p := ⟨b2, o2 + k * 7 + 2, none⟩) hd2).trans d2
            have v3 := (hw'.cell (p := ⟨b2, o2 + k * 7 + 3, none⟩) hd2).trans d3
            have v4 := (hw'.cell (p := ⟨b2, o2 + k * 7 + 4, none⟩) hd2).trans d4
            have v5 := (hw'.cell (p := ⟨b2, o2 + k * 7 + 5, none⟩) hd2).trans d5
            have v6 := (hw'.cell (p := ⟨b2, o2 + k * 7 + 6, none⟩) hd2).trans d6
            go_simp
            try go_bits
            exact hC
          simp only [putS, List.set_cons_succ, List.set_cons_zero]
          refine wpA_known (.is (.bool true)) (fun _ _ h => by cases h) rfl rfl (mono_is _) (fun w' hw' => ?_) ?_
          · go_simp
            exact ⟨Below.refl _ _, (sameSnapT w' f1.p f1.A f2.A f1.c f2.c ((r1.drew.below hw').more hw'.size) f2.p ((r2.drew.below hw').more hw'.size) HE.out).mono fun e w'' h => is_ret (h.1) h.2⟩
          simp only [putS, List.set_cons_succ, List.set_cons_zero]
          refine wpA_value ext_grow ?_ (fun _ _ h => by cases h) rfl rfl ?_ ?_
          rotate_left 1
          · intro w' hw' C hC
            go_simp
            try go_bits
            exact hC
          simp only [putS, List.set_cons_succ, List.set_cons_zero]
          intro wd hwd
          simp only [openS]
          have hbd := below_of_drew hwd
          go_wp2_with fail
          go_roundw
          case rel => exact ⟨k + 1, by go_num, hlt, below_call hbr hbr.size hbd⟩
          case measure => simp [intOf]; omega
        · go_wp2_with fail
          go_ret
          exact ⟨rfl, by rw [← HBX.out]; exact HB2.out.trans (hbr.mono (Nat.le_of_lt z1))⟩
end
end Go.Proofs.Ytlccpchlclpnaaa
