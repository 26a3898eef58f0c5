/- THE REFERENCE's STORE OF OBJECTS IN MEMORY; THE WALKS of its New, At, Used, change: for safety alone. No statement of the seat is proved here; no condition but sizes. -/
import Derived.Test.YtbgfmcmaklobaaaObF
import Derived.BigQuiet
namespace Go.Proofs.Ytbgfmcmaklobaaa
open Go.RowKit

theorem flat_get {α : Type} (enc : α → List Value) (k : Nat) (hk : ∀ a, (enc a).length = k) : ∀ (l : List α) (i j : Nat) (hi : i < l.length), j < k → (l.flatMap enc)[i * k + j]? = (enc l[i])[j]?
  | a :: l, 0, j, _, hj => by
    rw [List.flatMap_cons, List.getElem?_append_left (by rw [hk]; omega)]
    simp
  | a :: l, i + 1, j, hi, hj => by
    rw [List.flatMap_cons, List.getElem?_append_right (by rw [hk]; rw [Nat.succ_mul]; omega), hk]
    rw [show (i + 1) * k + j - k = i * k + j by rw [Nat.succ_mul]; omega]
    exact flat_get enc k hk l i j (by simpa using hi) hj
theorem Rd.el {α : Type} [Inhabited α] (enc : α → List Value) (k : Nat) (hk : ∀ a, (enc a).length = k) {w : World} {B n c : Nat} {A : Option Addr} {l : List α} (h : Rd w B k A n c (l.flatMap enc)) {i : Nat} (hi : i < l.length) (hk0 : 0 < k) :
    ∃ b off, A = some ⟨b, off, none⟩ ∧ b < B ∧ ∀ j v, (enc (l.getD i default))[j]? = some v → w.cell? ⟨b, off + i * k + j, none⟩ = some v := by
  have hn : n = l.length := by
    have := h.len
    rw [flat_len enc k hk] at this
    exact (Nat.eq_of_mul_eq_mul_right hk0 this).symm
  obtain ⟨b, off, rfl, hb, hc⟩ := h.at_ (by omega)
  refine ⟨b, off, rfl, hb, fun j v hj => ?_⟩
  rw [Nat.add_assoc]
  refine hc _ v ?_
  have hjk : j < k := by
    have := (List.getElem?_eq_some_iff.1 hj).1
    rw [hk] at this
    exact this
  rw [flat_get enc k hk l i j hi hjk, ← hj]
  simp [List.getD, hi]
/-- a thing of the reference's list -/
structure Tg where
  nm : ByteArray
  bs : List UInt8
  lo : Bool
  A : Option Addr
  c : Nat
instance : Inhabited Tg := ⟨⟨ByteArray.empty, [], false, none, 0⟩⟩
def thV (x : Tg) : List Value := [.string x.nm, .slice x.A x.bs.length x.c, .bool x.lo]
def thsV (l : List Tg) : List Value := l.flatMap thV
theorem thV_length (x : Tg) : (thV x).length = 3 := rfl
theorem thsV_append (a b : List Tg) : thsV (a ++ b) = thsV a ++ thsV b := by simp [thsV]
theorem thV_one (x : Tg) : ∀ u ∈ thV x, u.oneCell' = true := by
  intro u hu
  simp only [thV, List.mem_cons, List.not_mem_nil, or_false] at hu
  rcases hu with rfl | rfl | rfl <;> rfl
theorem tyThs : STy Try.prog 59 73 3 48 (.agg #[.string ByteArray.empty, .slice none 0 0, .bool false]) := ⟨Try.underlying59, by kernel_rfl, rfl, by decide, by decide⟩
/-- the reference's store -/
structure Rf where
  q : Int
  A : Option Addr
  c : Nat
  L : List Tg
  cs : ByteArray
  fu : Int
  fa : Int
  de : Bool
def I64 (x : Int) : Prop := -9223372036854775808 ≤ x ∧ x ≤ 9223372036854775807
/-- the blocks that its calls do not write -/
def Ofl (sb mb rb lb : Nat) (k : Nat) : Prop := k ≠ sb ∧ k ≠ mb ∧ k ≠ rb ∧ k ≠ lb
structure RfR (w : World) (sb mb rb lb : Nat) (s : Rf) : Prop where
  bx : BoxN w rb [.int .i64 s.q, .slice s.A s.L.length s.c, .string s.cs, .int .i64 s.fu, .int .i64 s.fa, .bool s.de]
  row : w.ownsRow 0 73 3 (.slice s.A s.L.length s.c) s.L.length (thsV s.L)
  at_ : ∀ b off, s.A = some ⟨b, off, none⟩ → b = lb ∧ b ≠ rb
  ins : ∀ x ∈ s.L, RdP w (Ofl sb mb rb lb) x.A x.bs.length x.c x.bs ∧ x.bs.length ≤ 70000
  q0 : I64 s.q
  f0 : I64 s.fu
  g0 : I64 s.fa
  ne : rb ≠ sb ∧ rb ≠ mb ∧ lb ≠ sb ∧ lb ≠ mb
  lt : lb < w.heap.size
section
variable {w w' : World} {sb mb rb lb : Nat} {s : Rf}
theorem own_keep {base sz n : Nat} {e : TypeId} {v : Value} {xs : List Value} (h : w.ownsRow base e sz v n xs) (hk : ∀ g, v.ownBlock = some g → g < w.heap.size → w'.heap[g]? = w.heap[g]?) : w'.ownsRow base e sz v n xs :=
  ⟨h.1, h.2.imp id fun ⟨g, cap, cur, hv, hb, hg, r⟩ => ⟨g, cap, cur, hv, hb, (hk g (by rw [hv]; rfl) (Array.getElem?_eq_some_iff.1 hg).1).trans hg, r⟩⟩
theorem RfR.own (h : RfR w sb mb rb lb s) {g : Nat} (hg : (Value.slice s.A s.L.length s.c).ownBlock = some g) : g = lb ∧ g ≠ rb := by
  cases hA : s.A with
  | none => rw [hA] at hg; cases hg
  | some a =>
    obtain ⟨b, off, sp⟩ := a
    rw [hA] at hg
    injection hg with hg
    have hg : b = g := hg
    subst hg
    have hr := h.row.2
    rw [hA] at hr
    rcases hr with ⟨q, _⟩ | ⟨g2, _, _, q, _⟩
    · cases q
    · injection q with q
      injection q with q
      injection q with q1 q2 q3
      subst q3
      exact h.at_ b off hA
/-- its things are kept where others turn -/
theorem RfR.move (h : RfR w sb mb rb lb s) (hz : w.heap.size ≤ w'.heap.size) (hk : ∀ k, k < w.heap.size → k ≠ sb → k ≠ mb → w'.heap[k]? = w.heap[k]?) : RfR w' sb mb rb lb s := by
  have hrb := hk rb h.bx.z h.ne.1 h.ne.2.1
  refine ⟨⟨fun j v hj => (World.cell?_of_block (w := w) (a := ⟨rb, j, none⟩) hrb).trans (h.bx.cell j v hj), fun j hj => (World.frozen?_of_block (w := w) (a := ⟨rb, j, none⟩) hrb).trans (h.bx.free j hj), Nat.lt_of_lt_of_le h.bx.z hz⟩, own_keep h.row (fun g hg hl => ?_), h.at_, fun x hx => ⟨(h.ins x hx).1.keep hz (fun p hp hl => World.cell?_of_block (w := w) (hk p.block hl hp.1 hp.2.1)), (h.ins x hx).2⟩, h.q0, h.f0, h.g0, h.ne, Nat.lt_of_lt_of_le h.lt hz⟩
  obtain ⟨e, _⟩ := h.own hg
  rw [e] at hl ⊢
  exact hk lb hl h.ne.2.2.1 h.ne.2.2.2
theorem RfR.ost (h : RfR w sb mb rb lb s) (ho : Ost sb mb w w') : RfR w' sb mb rb lb s := h.move ho.size ho.block
theorem RfR.keep (h : RfR w sb mb rb lb s) (hb : Below w.heap.size w w') : RfR w' sb mb rb lb s := h.move hb.size (fun k hk _ _ => hb.block k hk)
theorem RfR.el (h : RfR w sb mb rb lb s) {i : Nat} (hi : i < s.L.length) : ∃ b off, s.A = some ⟨b, off, none⟩ ∧ ∀ x, s.L.getD i default = x → w.cell? ⟨b, off + i * 3, none⟩ = some (.string x.nm) ∧ w.cell? ⟨b, off + i * 3 + 1, none⟩ = some (.slice x.A x.bs.length x.c) ∧ w.cell? ⟨b, off + i * 3 + 2, none⟩ = some (.bool x.lo) := by
  obtain ⟨b, off, e, _, hc⟩ := Rd.el thV 3 thV_length (rd_own h.row) hi (by omega)
  refine ⟨b, off, e, fun x hx => ?_⟩
  subst hx
  exact ⟨hc 0 _ rfl, hc 1 _ rfl, hc 2 _ rfl⟩
theorem RfR.len (h : RfR w sb mb rb lb s) : s.L.length ≤ 9223372036854775807 := by have h1 := (rd_own h.row).le; have h2 := (rd_own h.row).cap; unfold maxLen at h2; omega
end
set_option maxRecDepth 100000 in
theorem refAt (w : World) (sb mb rb lb : Nat) (s : Rf) (h : RfR w sb mb rb lb s) (nm : ByteArray) : Calls Try.prog 37 #[.pointer (some ⟨rb, 0, none⟩), .string nm] w fun e w' => ∃ k : Int, e = .returned (.int .i64 k) ∧ -1 ≤ k ∧ k < s.L.length ∧ w = w' := by
  have c1 := h.bx.cell 1 _ rfl
  have hlen := h.len
  go_enter Try.func37, Try.ntmps37
  go_wp2_with fail
  go_loop [5] (fun iv => ∃ k : Nat, iv = .int .i64 (k : Int) ∧ k ≤ s.L.length) (fun iv => s.L.length - (intOf iv).toNat)
  case atStart => exact ⟨0, rfl, Nat.zero_le _⟩
  case round =>
    obtain ⟨k, rfl, hk⟩ := hrel
    by_cases hlt : k < s.L.length
    · obtain ⟨b, off, hA, hx⟩ := h.el hlt
      obtain ⟨x0, _, _⟩ := hx _ rfl
      rw [hA] at c1
      generalize s.L.getD k default = x at *
      obtain ⟨b2, hb2⟩ : ∃ b2, (x.nm.toList == nm.toList) = b2 := ⟨_, rfl⟩
      cases b2 with
      | true =>
        go_wp2_with fail
        go_ret
        exact ⟨k, rfl, by omega, by omega, rfl⟩
      | false =>
        go_wp2_with fail
        go_round
        case rel => exact ⟨k + 1, by go_num, hlt⟩
        case measure => simp [intOf]; omega
    · go_wp2_with fail
      go_ret
      exact ⟨-1, rfl, by omega, by omega, rfl⟩
theorem getD_ins {s : Rf} {P : Tg → Prop} (h : ∀ x ∈ s.L, P x) {i : Nat} (hi : i < s.L.length) : P (s.L.getD i default) := h _ (by rw [List.getD_eq_getElem?_getD, List.getElem?_eq_getElem hi]; exact List.getElem_mem hi)
set_option maxRecDepth 100000 in
theorem refUsed (w : World) (sb mb rb lb : Nat) (s : Rf) (h : RfR w sb mb rb lb s) (hl : s.L.length ≤ 1000) : Calls Try.prog 38 #[.pointer (some ⟨rb, 0, none⟩)] w fun e w' => ∃ k : Nat, e = .returned (.int .i64 (k : Int)) ∧ k ≤ 70000000 ∧ w = w' := by
  have c1 := h.bx.cell 1 _ rfl
  go_enter Try.func38, Try.ntmps38
  go_wp2_with fail
  go_loop [3, 4] (fun nv iv => ∃ n k : Nat, nv = .int .i64 (n : Int) ∧ iv = .int .i64 (k : Int) ∧ k ≤ s.L.length ∧ n ≤ k * 70000) (fun _ iv => s.L.length - (intOf iv).toNat)
  case atStart => exact ⟨0, 0, rfl, rfl, Nat.zero_le _, by omega⟩
  case round =>
    obtain ⟨n, k, rfl, rfl, hk, hn⟩ := hrel
    by_cases hlt : k < s.L.length
    · obtain ⟨b, off, hA, hx⟩ := h.el hlt
      obtain ⟨_, x1, _⟩ := hx _ rfl
      have hi := (getD_ins h.ins hlt).2
      rw [hA] at c1
      generalize s.L.getD k default = x at *
      go_wp2_with fail
      go_round
      case rel => exact ⟨n + x.bs.length, k + 1, by go_num, by go_num, hlt, by omega⟩
      case measure => simp [intOf]; omega
    · go_wp2_with fail
      go_ret
      exact ⟨n, rfl, by omega, rfl⟩
/-- what a call on the reference's store leaves -/
def RfEnd (w : World) (sb mb rb lb K : Nat) (w' : World) : Prop := ∃ s lb2, RfR w' sb mb rb lb2 s ∧ s.L.length ≤ K ∧ Ost rb lb w w' ∧ (lb2 = lb ∨ w.heap.size ≤ lb2)
/-- cells of its box turned -/
theorem RfR.box {w w' : World} {sb mb rb lb : Nat} {s s2 : Rf} (h : RfR w sb mb rb lb s) (ho : Oth rb w w') (hb : BoxN w' rb [.int .i64 s2.q, .slice s2.A s2.L.length s2.c, .string s2.cs, .int .i64 s2.fu, .int .i64 s2.fa, .bool s2.de]) (eA : s2.A = s.A) (ec : s2.c = s.c) (eL : s2.L = s.L) (q0 : I64 s2.q) (f0 : I64 s2.fu) (g0 : I64 s2.fa) : RfR w' sb mb rb lb s2 :=
  ⟨hb, by rw [eA, ec, eL]; exact own_keep h.row (fun g hg hl => ho.block g hl (h.own hg).2), by rw [eA]; exact h.at_, by rw [eL]; exact fun x hx => ⟨(h.ins x hx).1.keep ho.size (fun p hp hl => ho.cell hl hp.2.2.1), (h.ins x hx).2⟩, q0, f0, g0, h.ne, Nat.lt_of_lt_of_le h.lt ho.size⟩
set_option maxRecDepth 100000 in
theorem refChange (w : World) (sb mb rb lb : Nat) (s : Rf) (h : RfR w sb mb rb lb s) : Calls Try.prog 39 #[.pointer (some ⟨rb, 0, none⟩)] w fun e w' => ∃ k : Nat, e = .returned (.int .i64 (k : Int)) ∧ (k = 0 ∨ k = 120 ∨ k = 121) ∧ ∃ s2, RfR w' sb mb rb lb s2 ∧ s2.L = s.L ∧ s2.A = s.A ∧ s2.c = s.c ∧ Oth rb w w' := by
  have c3 := h.bx.cell 3 _ rfl
  have c4 := h.bx.cell 4 _ rfl
  have c5 := h.bx.cell 5 _ rfl
  have x3 := h.bx.free 3 (by simp)
  have x4 := h.bx.free 4 (by simp)
  have x5 := h.bx.free 5 (by simp)
  obtain ⟨f1, f2⟩ := h.f0
  obtain ⟨g1, g2⟩ := h.g0
  by_cases h0 : s.fu = 0
  · have t8 : (s.fu == 0) = true := by rw [beq_iff_eq]; exact h0
    clear h0
    go_enter Try.func39, Try.ntmps39
    go_wp2_with fail
    go_ret
    exact ⟨120, rfl, by omega, { s with de := true }, h.box ((Oth.refl rb w).set 5 _) (h.bx.set (j := 5) (.bool true) rfl) rfl rfl rfl h.q0 h.f0 h.g0, rfl, rfl, rfl, (Oth.refl rb w).set 5 _⟩
  · have t8 : (s.fu == 0) = false := by rw [beq_eq_false_iff_ne]; exact h0
    clear h0
    obtain ⟨fb, hfb⟩ : ∃ b, (s.fa == 0) = b := ⟨_, rfl⟩
    by_cases hf : 0 < s.fu
    · have t21 : decide (0 < s.fu) = true := decide_eq_true hf
      have w1 : wrap64 (s.fu - 1) = s.fu - 1 := IntWalk.wrap64_in _ ⟨by omega, by omega⟩
      by_cases hg : 0 ≤ s.fa
      · have t34 : decide (0 ≤ s.fa) = true := decide_eq_true hg
        have w2 : wrap64 (s.fa - 1) = s.fa - 1 := IntWalk.wrap64_in _ ⟨by omega, by omega⟩
        cases fb with
        | true =>
          go_enter Try.func39, Try.ntmps39
          go_wp2_with fail
          go_ret
          exact ⟨121, rfl, by omega, { s with fu := s.fu - 1, fa := s.fa - 1 }, h.box (s2 := { s with fu := s.fu - 1, fa := s.fa - 1 }) (((Oth.refl rb w).set 3 (.int .i64 (s.fu - 1))).set 4 (.int .i64 (s.fa - 1))) ((h.bx.set (j := 3) (.int .i64 (s.fu - 1)) rfl).set (j := 4) (.int .i64 (s.fa - 1)) rfl) rfl rfl rfl h.q0 ⟨by show -9223372036854775808 ≤ s.fu - 1; omega, by show s.fu - 1 ≤ 9223372036854775807; omega⟩ ⟨by show -9223372036854775808 ≤ s.fa - 1; omega, by show s.fa - 1 ≤ 9223372036854775807; omega⟩, rfl, rfl, rfl, (((Oth.refl rb w).set 3 (.int .i64 (s.fu - 1))).set 4 (.int .i64 (s.fa - 1)))⟩
        | false =>
          go_enter Try.func39, Try.ntmps39
          go_wp2_with fail
          go_ret
          exact ⟨0, rfl, by omega, { s with fu := s.fu - 1, fa := s.fa - 1 }, h.box (s2 := { s with fu := s.fu - 1, fa := s.fa - 1 }) (((Oth.refl rb w).set 3 (.int .i64 (s.fu - 1))).set 4 (.int .i64 (s.fa - 1))) ((h.bx.set (j := 3) (.int .i64 (s.fu - 1)) rfl).set (j := 4) (.int .i64 (s.fa - 1)) rfl) rfl rfl rfl h.q0 ⟨by show -9223372036854775808 ≤ s.fu - 1; omega, by show s.fu - 1 ≤ 9223372036854775807; omega⟩ ⟨by show -9223372036854775808 ≤ s.fa - 1; omega, by show s.fa - 1 ≤ 9223372036854775807; omega⟩, rfl, rfl, rfl, (((Oth.refl rb w).set 3 (.int .i64 (s.fu - 1))).set 4 (.int .i64 (s.fa - 1)))⟩
      · have t34 : decide (0 ≤ s.fa) = false := decide_eq_false hg
        cases fb with
        | true =>
          go_enter Try.func39, Try.ntmps39
          go_wp2_with fail
          go_ret
          exact ⟨121, rfl, by omega, { s with fu := s.fu - 1 }, h.box (s2 := { s with fu := s.fu - 1 }) ((Oth.refl rb w).set 3 (.int .i64 (s.fu - 1))) (h.bx.set (j := 3) (.int .i64 (s.fu - 1)) rfl) rfl rfl rfl h.q0 ⟨by show -9223372036854775808 ≤ s.fu - 1; omega, by show s.fu - 1 ≤ 9223372036854775807; omega⟩ h.g0, rfl, rfl, rfl, ((Oth.refl rb w).set 3 (.int .i64 (s.fu - 1)))⟩
        | false =>
          go_enter Try.func39, Try.ntmps39
          go_wp2_with fail
          go_ret
          exact ⟨0, rfl, by omega, { s with fu := s.fu - 1 }, h.box (s2 := { s with fu := s.fu - 1 }) ((Oth.refl rb w).set 3 (.int .i64 (s.fu - 1))) (h.bx.set (j := 3) (.int .i64 (s.fu - 1)) rfl) rfl rfl rfl h.q0 ⟨by show -9223372036854775808 ≤ s.fu - 1; omega, by show s.fu - 1 ≤ 9223372036854775807; omega⟩ h.g0, rfl, rfl, rfl, ((Oth.refl rb w).set 3 (.int .i64 (s.fu - 1)))⟩
    · have t21 : decide (0 < s.fu) = false := decide_eq_false hf
      by_cases hg : 0 ≤ s.fa
      · have t34 : decide (0 ≤ s.fa) = true := decide_eq_true hg
        have w2 : wrap64 (s.fa - 1) = s.fa - 1 := IntWalk.wrap64_in _ ⟨by omega, by omega⟩
        cases fb with
        | true =>
          go_enter Try.func39, Try.ntmps39
          go_wp2_with fail
          go_ret
          exact ⟨121, rfl, by omega, { s with fa := s.fa - 1 }, h.box (s2 := { s with fa := s.fa - 1 }) ((Oth.refl rb w).set 4 (.int .i64 (s.fa - 1))) (h.bx.set (j := 4) (.int .i64 (s.fa - 1)) rfl) rfl rfl rfl h.q0 h.f0 ⟨by show -9223372036854775808 ≤ s.fa - 1; omega, by show s.fa - 1 ≤ 9223372036854775807; omega⟩, rfl, rfl, rfl, ((Oth.refl rb w).set 4 (.int .i64 (s.fa - 1)))⟩
        | false =>
          go_enter Try.func39, Try.ntmps39
          go_wp2_with fail
          go_ret
          exact ⟨0, rfl, by omega, { s with fa := s.fa - 1 }, h.box (s2 := { s with fa := s.fa - 1 }) ((Oth.refl rb w).set 4 (.int .i64 (s.fa - 1))) (h.bx.set (j := 4) (.int .i64 (s.fa - 1)) rfl) rfl rfl rfl h.q0 h.f0 ⟨by show -9223372036854775808 ≤ s.fa - 1; omega, by show s.fa - 1 ≤ 9223372036854775807; omega⟩, rfl, rfl, rfl, ((Oth.refl rb w).set 4 (.int .i64 (s.fa - 1)))⟩
      · have t34 : decide (0 ≤ s.fa) = false := decide_eq_false hg
        cases fb with
        | true =>
          go_enter Try.func39, Try.ntmps39
          go_wp2_with fail
          go_ret
          exact ⟨121, rfl, by omega, s, h.box (s2 := s) (Oth.refl rb w) h.bx rfl rfl rfl h.q0 h.f0 h.g0, rfl, rfl, rfl, (Oth.refl rb w)⟩
        | false =>
          go_enter Try.func39, Try.ntmps39
          go_wp2_with fail
          go_ret
          exact ⟨0, rfl, by omega, s, h.box (s2 := s) (Oth.refl rb w) h.bx rfl rfl rfl h.q0 h.f0 h.g0, rfl, rfl, rfl, (Oth.refl rb w)⟩
end Go.Proofs.Ytbgfmcmaklobaaa
