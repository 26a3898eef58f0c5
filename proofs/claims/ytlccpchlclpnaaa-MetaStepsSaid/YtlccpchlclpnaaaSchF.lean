/- WALKS of the library's IndexFunc, ContainsFunc, Clone at fields, and of the program's closures. No statement of the seat is proved here; no condition. -/
import Derived.Test.YtlccpchlclpnaaaSchC
import Derived.Deep.LoopGhost
import Derived.Lib.SliceRun
import Derived.Shelf.Abstract
namespace Go.Proofs.Ytlccpchlclpnaaa
open Go.RowKit

/-- the first place at which p holds, or -1 -/
def idxF (p : Fd → Bool) (l : List Fd) : Int := if l.any p then (l.findIdx p : Int) else -1
theorem idxF_hit {p : Fd → Bool} {l : List Fd} {k : Nat} (hk : k < l.length) (h : p (l.getD k default) = true) (hn : ∀ j, j < k → p (l.getD j default) = false) : idxF p l = (k : Int) := by
  have hk' : p l[k] = true := by simpa [List.getD, hk] using h
  have ha : l.any p = true := List.any_eq_true.2 ⟨l[k], List.getElem_mem hk, hk'⟩
  unfold idxF
  rw [if_pos ha]
  congr 1
  rw [List.findIdx_eq hk]
  refine ⟨hk', fun j hj => ?_⟩
  have := hn j hj
  simpa [List.getD, show j < l.length by omega] using this
theorem any_none {p : Fd → Bool} {l : List Fd} (h : ∀ j, j < l.length → p (l.getD j default) = false) : l.any p = false := by
  rw [List.any_eq_false]
  intro f hf
  obtain ⟨j, hj, rfl⟩ := List.mem_iff_getElem.1 hf
  have := h j hj
  simp [List.getD, hj] at this
  simp [this]
theorem idxF_none {p : Fd → Bool} {l : List Fd} (h : ∀ j, j < l.length → p (l.getD j default) = false) : idxF p l = -1 := by
  unfold idxF
  rw [any_none h]
  rfl
theorem idxF_ge (p : Fd → Bool) (l : List Fd) : decide ((0 : Int) ≤ idxF p l) = l.any p := by
  unfold idxF
  cases l.any p <;> simp

/-- what a closure gives, whatever was laid meanwhile -/
def PredF (w : World) (g : Nat) (lb : Array Value) (p : Fd → Bool) : Prop :=
  ∀ (W : World) (f : Fd), Below w.heap.size w W → Calls Try.prog g (#[.agg #[.int .u32 (f.id.toNat : Int), .string f.name, .int .u8 (f.kind.toNat : Int), .bool f.need]] ++ lb) W fun e w' => e = .returned (.bool (p f)) ∧ Below w.heap.size w w'

set_option maxRecDepth 100000 in
set_option maxHeartbeats 1000000 in
theorem indexF (w : World) (B n c : Nat) (A : Option Addr) (l : List Fd) (hr : Rd w B 4 A n c (fdsV l)) (hB : B ≤ w.heap.size) (hmax : l.length ≤ 1000000) (g : Nat) (lb : Array Value) (p : Fd → Bool)
    (eg : ∀ args w, (callFunc g args).run Try.prog w = .ok (.enter g args) w) (hp : PredF w g lb p) :
    Calls Try.prog 59 #[.slice A n c, .func (.func g) #[] lb] w fun e w' => e = .returned (.int .i64 (idxF p l)) ∧ Below w.heap.size w w' := by
  obtain rfl := hr.lenF
  have hr := hr.more hB
  clear hB
  go_enter Try.func59, Try.ntmps59
  go_wp2_with fail
  go_loopw [5, 8] (fun _ kv wr => ∃ k : Nat, k ≤ l.length ∧ kv = .int .i64 (k : Int) ∧ Hid (∀ j, j < k → p (l.getD j default) = false) ∧ Hid (Below w.heap.size w wr)) (fun _ kv _ => l.length - (intOf kv).toNat)
  case atStart => exact ⟨0, Nat.zero_le _, rfl, hide (fun j h => by omega), hide (Below.refl _ _)⟩
  case round =>
    obtain ⟨k, hk, rfl, hf, hbr⟩ := hrel
    by_cases hlt : k < l.length
    · obtain ⟨b, off, rfl, hb, f0, f1, f2, f3⟩ := (hr.below hbr.out).fd hlt
      have hcall := hp wr (l.getD k default) hbr.out
      generalize hff : l.getD k default = f at *
      have HF := hide hff
      clear hff hp
      cases hq : p f with
      | true =>
        rw [hq] at hcall
        have HQ := hide hq
        clear hq
        go_wp2_with fail
        refine hcall.mono ?_
        rintro e w' ⟨rfl, hb'⟩
        go_wp2_with fail
        go_ret
        exact ⟨by rw [idxF_hit hlt (by rw [HF.out]; exact HQ.out) hf.out]; rfl, hb'⟩
      | false =>
        rw [hq] at hcall
        have HQ := hide hq
        clear hq
        go_wp2_with fail
        refine hcall.mono ?_
        rintro e w' ⟨rfl, hb'⟩
        go_wp2_with fail
        go_roundw
        case rel =>
          refine ⟨k + 1, by omega, by go_num, hide (fun j hj => ?_), hide hb'⟩
          by_cases e : j = k
          · rw [e, HF.out]; exact HQ.out
          · exact hf.out j (by omega)
        case measure => exact meas_sub k _ hlt
    · obtain rfl : k = l.length := by omega
      go_wp2_with fail
      go_ret
      exact ⟨by rw [idxF_none hf.out]; rfl, hbr.out⟩

theorem containsF (w : World) (B n c : Nat) (A : Option Addr) (l : List Fd) (hr : Rd w B 4 A n c (fdsV l)) (hB : B ≤ w.heap.size) (hmax : l.length ≤ 1000000) (g : Nat) (lb : Array Value) (p : Fd → Bool)
    (eg : ∀ args w, (callFunc g args).run Try.prog w = .ok (.enter g args) w) (hp : PredF w g lb p) :
    Calls Try.prog 52 #[.slice A n c, .func (.func g) #[] lb] w fun e w' => e = .returned (.bool (l.any p)) ∧ Below w.heap.size w w' := by
  have hc := indexF w B n c A l hr hB hmax g lb p eg hp
  rw [← idxF_ge]
  generalize idxF p l = r at *
  clear hr eg hp
  go_enter Try.func52, Try.ntmps52
  go_wp2_with fail
  refine hc.mono ?_
  rintro e w' ⟨rfl, hb⟩
  go_wp2_with fail
  go_ret
  exact ⟨rfl, hb⟩

/-- 'g.Name == f.Name', f behind a pointer -/
theorem predName (w : World) (bf off : Nat) (s : ByteArray) (hbf : bf < w.heap.size) (hc : w.cell? ⟨bf, off + 1, none⟩ = some (.string s)) :
    PredF w 58 #[.pointer (some ⟨bf, off, none⟩)] (fun f => f.name.toList == s.toList) := fun W f hb => by
  have h1 := (hb.cell (p := ⟨bf, off + 1, none⟩) hbf).trans hc
  have hBW : bf < W.heap.size := Nat.lt_of_lt_of_le hbf hb.size
  have hne : bf ≠ W.heap.size := Nat.ne_of_lt hBW
  show Calls Try.prog 58 #[.agg #[.int .u32 (f.id.toNat : Int), .string f.name, .int .u8 (f.kind.toNat : Int), .bool f.need], .pointer (some ⟨bf, off, none⟩)] W _
  clear hc
  go_enter Try.func58, Try.ntmps58
  go_wp2_with fail
  go_ret
  exact ⟨rfl, hb.alloc hb.size _⟩
/-- 'g.Name == name', name in a box -/
theorem predName2 (w : World) (bf : Nat) (s : ByteArray) (hbf : bf < w.heap.size) (hc : w.cell? ⟨bf, 0, none⟩ = some (.string s)) :
    PredF w 53 #[.pointer (some ⟨bf, 0, none⟩)] (fun f => f.name.toList == s.toList) := fun W f hb => by
  have h1 := (hb.cell (p := ⟨bf, 0, none⟩) hbf).trans hc
  have hBW : bf < W.heap.size := Nat.lt_of_lt_of_le hbf hb.size
  have hne : bf ≠ W.heap.size := Nat.ne_of_lt hBW
  show Calls Try.prog 53 #[.agg #[.int .u32 (f.id.toNat : Int), .string f.name, .int .u8 (f.kind.toNat : Int), .bool f.need], .pointer (some ⟨bf, 0, none⟩)] W _
  clear hc
  go_enter Try.func53, Try.ntmps53
  go_wp2_with fail
  go_ret
  exact ⟨rfl, hb.alloc hb.size _⟩
theorem predId (w : World) (bf : Nat) (id : Nat) (hbf : bf < w.heap.size) (hc : w.cell? ⟨bf, 0, none⟩ = some (.int .u32 (id : Int))) :
    PredF w 60 #[.pointer (some ⟨bf, 0, none⟩)] (fun f => (f.id.toNat : Int) == (id : Int)) := fun W f hb => by
  have h1 := (hb.cell (p := ⟨bf, 0, none⟩) hbf).trans hc
  have hBW : bf < W.heap.size := Nat.lt_of_lt_of_le hbf hb.size
  have hne : bf ≠ W.heap.size := Nat.ne_of_lt hBW
  show Calls Try.prog 60 #[.agg #[.int .u32 (f.id.toNat : Int), .string f.name, .int .u8 (f.kind.toNat : Int), .bool f.need], .pointer (some ⟨bf, 0, none⟩)] W _
  clear hc
  go_enter Try.func60, Try.ntmps60
  go_wp2_with fail
  go_ret
  exact ⟨rfl, hb.alloc hb.size _⟩
theorem enter58 : ∀ args w, (callFunc 58 args).run Try.prog w = .ok (.enter 58 args) w := enters_of Try.func58 (by kernel_rfl) rfl
theorem enter53 : ∀ args w, (callFunc 53 args).run Try.prog w = .ok (.enter 53 args) w := enters_of Try.func53 (by kernel_rfl) rfl
theorem enter60 : ∀ args w, (callFunc 60 args).run Try.prog w = .ok (.enter 60 args) w := enters_of Try.func60 (by kernel_rfl) rfl

theorem cloneF (w : World) (B n c : Nat) (A : Option Addr) (xs : List Value) (hr : Rd w B 4 A n c xs) (h1 : ∀ u ∈ xs, u.oneCell' = true) (hb : n * 32 ≤ 140737488355328) (hB : B ≤ w.heap.size) :
    Calls Try.prog 55 #[.slice A n c] w (RetRow w 96 4 n xs) := by
  have heq := fun W => Lib.run_eql_slice_nil (P := Try.prog) W 23 96 A n c 0 0 Try.underlying23
  cases A with
  | none =>
    obtain ⟨rfl, rfl⟩ := hr.none_
    go_enter Try.func55, Try.ntmps55
    go_wp2_with fail
    go_ret
    exact ⟨_, rfl, World.ownsRow_nil _ _ _ _, Below.refl _ _⟩
  | some ad =>
    have hlit := own_lit w (base := w.heap.size) 96 4 0 #[] (Nat.le_refl _) (by decide) rfl
    have hr' := hr.alloc hB (.cells #[] 96)
    go_enter Try.func55, Try.ntmps55
    go_wp2_with (at_builtin; refine wpList_app _ tyFields rfl _ _ rfl w.heap.size _ 0 [] rfl hlit B (some ad) _ c _ rfl hr' h1 (by omega) (by simp) ?_; intro v2 w2 hown2 hg2 _; simp only [Nat.zero_add, List.nil_append] at hown2; have hb2 := below_app ((Below.refl w.heap.size w).alloc (Nat.le_refl _) (.cells #[] 96)) (Nat.le_refl _) hlit hg2 (by simp))
    go_ret
    exact ⟨v2, rfl, hown2, hb2⟩
end Go.Proofs.Ytlccpchlclpnaaa
