/- THE WALKS of the reference's cut, Sync, Del, Swap, Get, New: for safety alone. No statement of the seat is proved here; no condition but sizes. -/
import Derived.Test.YtbgfmcmaklobaaaObX
namespace Go.Proofs.Ytbgfmcmaklobaaa
open Go.RowKit

/-- a list laid anew becomes the store's -/
theorem RfR.lay {w w1 : World} {sb mb rb lb B : Nat} {s s0 : Rf} (h0 : RfR w sb mb rb lb s0) (h : BoxN w1 rb [.int .i64 s.q, .slice s0.A s0.L.length s0.c, .string s.cs, .int .i64 s.fu, .int .i64 s.fa, .bool s.de]) (hb : Below w.heap.size w w1) (hB : w.heap.size ≤ B) (hown : w1.ownsRow B 73 3 (.slice s.A s.L.length s.c) s.L.length (thsV s.L))
    (hins : ∀ x ∈ s.L, RdP w1 (fun k => Ofl sb mb rb lb k ∧ k < B) x.A x.bs.length x.c x.bs ∧ x.bs.length ≤ 70000) (hs : sb < w.heap.size ∧ mb < w.heap.size) (q0 : I64 s.q) (f0 : I64 s.fu) (g0 : I64 s.fa) :
    ∃ lb2, RfR (w1.setCell ⟨rb, 1, none⟩ (.slice s.A s.L.length s.c)) sb mb rb lb2 s ∧ (lb2 = lb ∨ w.heap.size ≤ lb2) := by
  have hrb := h0.bx.z
  have hlb := h0.lt
  have hsz := hb.size
  obtain ⟨lb2, h1, h2, h3⟩ : ∃ lb2, (lb2 = lb ∨ B ≤ lb2) ∧ lb2 < w1.heap.size ∧ ∀ b off, s.A = some ⟨b, off, none⟩ → b = lb2 ∧ B ≤ b := by
    cases hA : s.A with
    | none => exact ⟨lb, .inl rfl, by omega, fun b off q => by cases q⟩
    | some a =>
      obtain ⟨b, off, sp⟩ := a
      have := hown.lt b (by rw [hA]; rfl)
      exact ⟨b, .inr this.1, this.2, fun b2 off2 q => by injection q with q; injection q with q1 q2 q3; exact ⟨q1.symm, by omega⟩⟩
  have hbx := h.set (j := 1) (.slice s.A s.L.length s.c) rfl
  refine ⟨lb2, ⟨hbx, own_base (ownsRow_setCell_below hown (a := ⟨rb, 1, none⟩) (show rb < B by omega) _) (Nat.zero_le _), fun b off q => ⟨(h3 b off q).1, by have := (h3 b off q).2; omega⟩, fun x hx => ⟨?_, (hins x hx).2⟩, q0, f0, g0, ⟨h0.ne.1, h0.ne.2.1, ?_, ?_⟩, by simpa using h2⟩, h1.imp id (fun q => by omega)⟩
  · refine RdP.keep (((hins x hx).1).imp (Q := Ofl sb mb rb lb2) fun k hk hl => ⟨hk.1.1, hk.1.2.1, hk.1.2.2.1, ?_⟩) (by simp) fun p hp _ => (cell_else (p := ⟨rb, 1, none⟩) (q := p) (fun q => hp.2.2.1 q) _).1
    rcases h1 with q | q
    · rw [q]; exact hk.1.2.2.2
    · have := hk.2; omega
  · rcases h1 with q | q
    · rw [q]; exact h0.ne.2.2.1
    · omega
  · rcases h1 with q | q
    · rw [q]; exact h0.ne.2.2.2
    · omega
theorem Ost.ofSet {w w1 : World} {rb lb : Nat} (hb : Below w.heap.size w w1) (x : Value) (j : Nat) : Ost rb lb w (w1.setCell ⟨rb, j, none⟩ x) :=
  ⟨hb.os, hb.tape, hb.output, by simpa using hb.size, fun k hk h1 _ => (Below.heap_setCell _ _ _ _ h1).trans (hb.block k hk)⟩
set_option maxRecDepth 100000 in
set_option maxHeartbeats 4000000 in
theorem refCut (w : World) (sb mb rb lb : Nat) (s : Rf) (h : RfR w sb mb rb lb s) (hl : s.L.length ≤ 1000) (hs : sb < w.heap.size ∧ mb < w.heap.size) (at_ : Int) : Calls Try.prog 40 #[.pointer (some ⟨rb, 0, none⟩), .int .i64 at_] w fun e w' => e = .returned (.tuple #[]) ∧ RfEnd w sb mb rb lb s.L.length w' := by
  have HH := hide h
  go_enter Try.func40, Try.ntmps40
  go_wp2_with fail
  go_loopw [4, 5] (fun v4 iv wr => ∃ (k : Nat) (oA : Option Addr) (oc : Nat) (out : List Tg), v4 = .slice oA out.length oc ∧ iv = .int .i64 (k : Int) ∧ k ≤ s.L.length ∧ out.length ≤ k ∧ wr.ownsRow w.heap.size 73 3 (.slice oA out.length oc) out.length (thsV out) ∧ (∀ x ∈ out, RdP wr (fun k => Ofl sb mb rb lb k ∧ k < w.heap.size) x.A x.bs.length x.c x.bs ∧ x.bs.length ≤ 70000) ∧ Below w.heap.size w wr) (fun _ iv _ => s.L.length - (intOf iv).toNat)
  case atStart => exact ⟨0, none, 0, [], rfl, rfl, Nat.zero_le _, Nat.le_refl _, World.ownsRow_nil _ _ _ _, by simp, Below.refl _ _⟩
  case round =>
    obtain ⟨k, oA, oc, out, rfl, rfl, hk, hol, hown, hins, hbr⟩ := hrel
    have hR := HH.out.keep hbr
    have c1 := hR.bx.cell 1 _ rfl
    by_cases hlt : k < s.L.length
    · by_cases he : (k : Int) = at_
      · have t17 : ((k : Int) != at_) = false := by simp [he]
        subst he
        clear h hR
        go_wp2_with fail
        go_roundw
        case rel => exact ⟨k + 1, oA, oc, out, rfl, by go_num, hlt, by omega, hown, hins, hbr⟩
        case measure => simp [intOf]; omega
      · have t17 : ((k : Int) != at_) = true := by rw [bne_iff_ne]; exact he
        clear he
        obtain ⟨b, off, hA, hx⟩ := hR.el hlt
        obtain ⟨x0, x1, x2⟩ := hx _ rfl
        have hxi := getD_ins HH.out.ins hlt
        rw [hA] at c1
        generalize s.L.getD k default = x at *
        have hxr : RdP wr (fun k => Ofl sb mb rb lb k ∧ k < w.heap.size) x.A x.bs.length x.c x.bs := (hxi.1.imp (fun k h1 h2 => ⟨h1, h2⟩)).low hbr
        have hbL := (Below.refl wr.heap.size wr).alloc (Nat.le_refl _) (.cells (thV x).toArray 73)
        have hom := own_below hown hbL
        have hrL : Rd (wr.alloc (.cells (thV x).toArray 73)) (wr.heap.size + 1) 3 (some ⟨wr.heap.size, 0, none⟩) 1 1 (thV x) := Rd.lit (n := 1) (sz := 3) wr 73 (thV x).toArray rfl (by unfold maxLen; omega)
        have hz6 : w.heap.size ≤ (wr.alloc (.cells (thV x).toArray 73)).heap.size := Nat.le_trans hbr.size hbL.size
        have hz7 : wr.heap.size ≤ (wr.alloc (.cells (thV x).toArray 73)).heap.size := hbL.size
        have HB := hide ((Below.refl w.heap.size wr).alloc hbr.size (.cells (thV x).toArray 73))
        have HI := hide (And.intro hxr (And.intro hxi.2 (And.intro hins hbr)))
        simp only [thV] at hrL hom hz6 hz7
        have HZ := hide hz7
        clear hz7
        clear hbL hown h hR hxr hxi hins hx hbr
        go_wp2_with (at_builtin; refine wpList_app _ tyThs rfl (.tmp 18) (.tmp 26) rfl w.heap.size _ out.length (thsV out) rfl hom (wr.heap.size + 1) _ 1 1 _ rfl hrL (thV_one x) (by omega) hz6 ?_; intro v8 w8 hown8 hg8 _)
        have hb8 := below_app HB.out (Nat.le_refl _) hom hg8 hz6
        have hb9 := HI.out.2.2.2.trans hb8
        have e1 : (out ++ [x]).length = out.length + 1 := by simp
        have e2 : thsV (out ++ [x]) = thsV out ++ thV x := by simp [thsV]
        obtain ⟨g, cap, rfl, _, _⟩ := hown8.form (by omega)
        have hown9 : w8.ownsRow w.heap.size 73 3 (.slice (some ⟨g, 0, none⟩) (out ++ [x]).length cap) (out ++ [x]).length (thsV (out ++ [x])) := by rw [e1, e2]; exact hown8
        have hkp : ∀ y : Tg, RdP wr (fun k => Ofl sb mb rb lb k ∧ k < w.heap.size) y.A y.bs.length y.c y.bs → RdP w8 (fun k => Ofl sb mb rb lb k ∧ k < w.heap.size) y.A y.bs.length y.c y.bs := fun y hy => hy.keep (Nat.le_trans HZ.out hg8.size) fun p hp _ => hb8.cell hp.2
        have HI3 := hide (show ∀ y ∈ out ++ [x], RdP w8 (fun k => Ofl sb mb rb lb k ∧ k < w.heap.size) y.A y.bs.length y.c y.bs ∧ y.bs.length ≤ 70000 from fun y hy => by
          rcases List.mem_append.1 hy with hy | hy
          · exact ⟨hkp y (HI.out.2.2.1 y hy).1, (HI.out.2.2.1 y hy).2⟩
          · rw [List.mem_singleton.1 hy]
            exact ⟨hkp x HI.out.1, HI.out.2.1⟩)
        rw [← e1]
        clear hown8 hg8 hom hrL x0 x1 x2 c1 hkp
        go_wp2_with fail
        go_roundw
        case rel => exact ⟨k + 1, some ⟨g, 0, none⟩, cap, out ++ [x], rfl, by go_num, hlt, by rw [e1]; omega, hown9, HI3.out, hb9⟩
        case measure => simp [intOf]; omega
    · have f1 := hR.bx.free 1 (by simp)
      have HX := hide (And.intro hR.bx (And.intro hown (And.intro hins hbr)))
      clear hR hown hins h
      go_wp2_with fail
      go_end0
      obtain ⟨hbx, hown, hins, hbr⟩ := HX.out
      obtain ⟨lb2, h1, h2⟩ := RfR.lay (s := { s with A := oA, c := oc, L := out }) HH.out hbx hbr (Nat.le_refl _) hown hins hs HH.out.q0 HH.out.f0 HH.out.g0
      exact ⟨rfl, { s with A := oA, c := oc, L := out }, lb2, h1, by show out.length ≤ _; omega, .ofSet hbr _ _, h2⟩
theorem thsV_set : ∀ (l : List Tg) (i : Nat) (x : Tg), l[i]? = some x → thsV (l.set i { x with lo := false }) = (thsV l).set (i * 3 + 2) (.bool false)
  | a :: l, 0, x, h => by
    have h : a = x := by simpa using h
    subst h
    rfl
  | a :: l, i + 1, x, h => by
    have ih := thsV_set l i x (by simpa using h)
    rw [show (i + 1) * 3 + 2 = i * 3 + 2 + 1 + 1 + 1 by omega]
    show thV a ++ thsV (l.set i _) = (.string a.nm :: .slice a.A a.bs.length a.c :: .bool a.lo :: thsV l).set (i * 3 + 2 + 1 + 1 + 1) (.bool false)
    rw [ih]
    rfl
theorem RfEnd.refl {w : World} {sb mb rb lb : Nat} {s : Rf} (h : RfR w sb mb rb lb s) : RfEnd w sb mb rb lb s.L.length w := ⟨s, lb, h, Nat.le_refl _, Ost.refl _ _ _, .inl rfl⟩
def RfCode (w : World) (sb mb rb lb K : Nat) (e : Ending) (w' : World) : Prop := ∃ k : Int, e = .returned (.int .i64 k) ∧ RfEnd w sb mb rb lb K w'
set_option maxRecDepth 100000 in
set_option maxHeartbeats 4000000 in
theorem refSync (w : World) (sb mb rb lb : Nat) (s : Rf) (h : RfR w sb mb rb lb s) (nm : ByteArray) : Calls Try.prog 28 #[.pointer (some ⟨rb, 0, none⟩), .string nm] w (RfCode w sb mb rb lb s.L.length) := by
  have c5 := h.bx.cell 5 _ rfl
  cases hd : s.de with
  | true =>
    rw [hd] at c5
    clear hd
    go_enter Try.func28, Try.ntmps28
    go_wp2_with fail
    go_ret
    exact ⟨120, rfl, .refl h⟩
  | false =>
    rw [hd] at c5
    clear hd
    go_enter Try.func28, Try.ntmps28
    go_wp2_with fail
    refine (refAt w sb mb rb lb s h nm).mono ?_
    rintro e w1 ⟨k, rfl, k1, k2, rfl⟩
    by_cases hk : k < 0
    · have t15 : decide (k < 0) = true := decide_eq_true hk
      clear hk
      go_wp2_with fail
      go_ret
      exact ⟨2, rfl, .refl h⟩
    · have t15 : decide (k < 0) = false := decide_eq_false hk
      obtain ⟨i, rfl⟩ := Int.eq_ofNat_of_zero_le (show 0 ≤ k by omega)
      have hi : i < s.L.length := by omega
      clear hk k1 k2
      go_wp2_with fail
      refine (refChange w sb mb rb lb s h).mono ?_
      rintro e w1 ⟨j, rfl, hj, s2, h2, eL, eA, ec, O2⟩
      by_cases hj0 : j = 0
      · subst hj0
        have c1 := h2.bx.cell 1 _ rfl
        have hi2 : i < s2.L.length := by rw [eL]; exact hi
        obtain ⟨g, cap, hv, hg1, _⟩ := h2.row.form (by omega)
        injection hv with q1 q2 q3
        have hrow := h2.row
        have hat := h2.at_ g 0 q1
        have hlen := h2.len
        rw [q1, q3] at hrow c1
        have hfz := hrow.frozenAt (i * 3 + 2)
        obtain ⟨x, hx⟩ : ∃ x, s2.L[i]? = some x := ⟨_, List.getElem?_eq_getElem hi2⟩
        have hst := (hrow.stored (i * 3 + 2) (.bool false)).1
        rw [← thsV_set s2.L i x hx] at hst
        have hcl : w1.cell? ⟨g, i * 3 + 2, none⟩ = some (.bool x.lo) := by
          obtain ⟨b, off, e1, hc⟩ := h2.el hi2
          rw [q1] at e1
          injection e1 with e1
          injection e1 with e1 e2
          subst e1 e2
          have := (hc x (by rw [List.getD_eq_getElem?_getD, hx]; rfl)).2.2
          rw [Nat.zero_add] at this
          exact this
        have HS := hide hst
        have HR := hide (And.intro h2 (And.intro O2 (And.intro hat (And.intro q1 (And.intro q3 (And.intro hx eL))))))
        clear hst hrow h2 hat q1 q3 hx eL eA ec h hj hi O2
        go_wp2_with fail
        go_ret
        obtain ⟨h2, O2, hat, q1, q3, hx, eL⟩ := HR.out
        have hll : (s2.L.set i { x with lo := false }).length = s2.L.length := List.length_set
        have hgx : g < w1.heap.size := by rw [hat.1]; exact h2.lt
        refine ⟨0, rfl, { s2 with L := s2.L.set i { x with lo := false } }, lb, ⟨?_, ?_, h2.at_, fun y hy => ?_, h2.q0, h2.f0, h2.g0, h2.ne, by simpa using h2.lt⟩, by show (s2.L.set i _).length ≤ _; rw [hll, eL]; exact Nat.le_refl _, ?_, .inl rfl⟩
        · show BoxN _ rb [.int .i64 s2.q, .slice s2.A (s2.L.set i { x with lo := false }).length s2.c, .string s2.cs, .int .i64 s2.fu, .int .i64 s2.fa, .bool s2.de]
          rw [hll]
          exact h2.bx.else (p := ⟨g, i * 3 + 2, none⟩) (fun q => hat.2 q) _
        · show World.ownsRow _ 0 _ 3 (.slice s2.A (s2.L.set i { x with lo := false }).length s2.c) (s2.L.set i { x with lo := false }).length (thsV (s2.L.set i { x with lo := false }))
          rw [hll, q1, q3]
          exact HS.out
        · have hy2 : ∃ y2 ∈ s2.L, y.A = y2.A ∧ y.bs = y2.bs ∧ y.c = y2.c := by
            rcases List.mem_or_eq_of_mem_set hy with q | q
            · exact ⟨y, q, rfl, rfl, rfl⟩
            · exact ⟨x, List.mem_of_getElem? hx, by rw [q], by rw [q], by rw [q]⟩
          obtain ⟨y2, hm, a1, a2, a3⟩ := hy2
          rw [a1, a2, a3]
          exact ⟨(h2.ins y2 hm).1.keep (by simp) fun p hp _ => (cell_else (p := ⟨g, i * 3 + 2, none⟩) (q := p) (fun q => hp.2.2.2 (q.trans hat.1)) _).1, (h2.ins y2 hm).2⟩
        · exact (Ost.ofOth O2).trans ⟨rfl, rfl, rfl, by simp, fun m hm _ h2 => Below.heap_setCell _ _ _ _ (fun q => h2 (q.trans hat.1))⟩
      · have t19 : ((j : Int) == 0) = false := by rw [beq_eq_false_iff_ne]; omega
        clear hj0 h hj
        go_wp2_with fail
        go_ret
        exact ⟨j, rfl, s2, lb, h2, by rw [eL]; exact Nat.le_refl _, .ofOth O2, .inl rfl⟩
end Go.Proofs.Ytbgfmcmaklobaaa
