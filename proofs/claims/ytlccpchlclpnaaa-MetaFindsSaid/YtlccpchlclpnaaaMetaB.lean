/- WORDS of MetaFinds: what is found, what the boxes hold. No statement of the seat is proved here; no condition. -/
import Derived.Test.YtlccpchlclpnaaaMetaA
import Derived.Test.YtlccpchlclpnaaaMetaH
namespace Go.Proofs.Ytlccpchlclpnaaa
open Go.RowKit

def SnPick (ns : List Nl) (i : Int) (b : Bool) (q : Sn) : Prop := (∃ k : Nat, i = (k : Int) ∧ b = true ∧ k < ns.length ∧ q = (ns.getD k default).p) ∨ (i = -1 ∧ b = false ∧ q = default)
def ShPick (ss : List Sl) (i : Int) (b : Bool) (id : UInt32) (fs : List Fd) : Prop := (∃ k : Nat, i = (k : Int) ∧ b = true ∧ k < ss.length ∧ id = (ss.getD k default).id ∧ fs = (ss.getD k default).fs) ∨ (i = -1 ∧ b = false ∧ id = 0 ∧ fs = [])
theorem ixA_cases {α : Type} [Inhabited α] (p : α → Bool) (l : List α) : (∃ k : Nat, ixA p l = (k : Int) ∧ k < l.length) ∨ ixA p l = -1 := by
  unfold ixA
  split
  · rename_i ha
    exact .inl ⟨_, rfl, List.findIdx_lt_length_of_exists (p := p) (xs := l) (by simpa using ha)⟩
  · exact .inr rfl
theorem snPick_miss (ns : List Nl) : SnPick ns (-1) (decide ((0 : Int) ≤ -1)) (snAt ns (-1)) := .inr ⟨rfl, rfl, rfl⟩
theorem snPick_six (ns : List Nl) (id : UInt64) : SnPick ns (sIx ns id) (decide (0 ≤ sIx ns id)) (snAt ns (sIx ns id)) := by
  rcases ixA_cases (fun f : Nl => (f.p.id.toNat : Int) == (id.toNat : Int)) ns with ⟨k, h, hk⟩ | h
  · have h' : sIx ns id = (k : Int) := h
    rw [h']
    exact .inl ⟨k, rfl, by simp, hk, by unfold snAt; rw [if_pos (by omega), Int.toNat_natCast]⟩
  · have h' : sIx ns id = -1 := h
    rw [h']
    exact snPick_miss ns
theorem snPick_now (ns : List Nl) (cur : UInt64) : SnPick ns (nowIx ns cur) (decide (0 ≤ nowIx ns cur)) (snAt ns (nowIx ns cur)) := by
  unfold nowIx
  split
  · exact snPick_miss ns
  · exact snPick_six ns cur
theorem shPick_cix (ss : List Sl) (id : UInt32) : ShPick ss (cIx ss id) (decide (0 ≤ cIx ss id)) (slId ss (cIx ss id)) (slFs ss (cIx ss id)) := by
  rcases ixA_cases (fun f : Sl => (f.id.toNat : Int) == (id.toNat : Int)) ss with ⟨k, h, hk⟩ | h
  · have h' : cIx ss id = (k : Int) := h
    rw [h']
    exact .inl ⟨k, rfl, by simp, hk, by unfold slId; rw [if_pos (by omega), Int.toNat_natCast], by unfold slFs; rw [if_pos (by omega), Int.toNat_natCast]⟩
  · have h' : cIx ss id = -1 := h
    rw [h']
    exact .inr ⟨rfl, rfl, rfl, rfl⟩
/-- what the boxes hold -/
structure FindB (w : World) (bx b7 b9 b11 : Nat) (sA : Option Addr) (sc : Nat) (ss : List Sl) (nA : Option Addr) (nc : Nat) (ns : List Nl) (cur : Nat) (q1 : Sn) (A1 : Option Addr) (c1 : Nat) (q2 : Sn) (A2 : Option Addr) (c2 : Nat) (sid : UInt32) (sfs : List Fd) (F : Option Addr) (fc : Nat) : Prop where
  X : BoxN w bx #[.slice sA ss.length sc, .slice nA ns.length nc, .int .u64 (cur : Int)].toList
  Y1 : BoxN w b7 #[.int .u64 (q1.id.toNat : Int), .int .u64 (q1.par.toNat : Int), .int .u64 (q1.seq.toNat : Int), .int .u64 (q1.off.toNat : Int), .int .u64 (q1.tim.toNat : Int), .int .u32 (q1.sch.toNat : Int), .slice A1 q1.ms.length c1].toList
  Y2 : BoxN w b9 #[.int .u64 (q2.id.toNat : Int), .int .u64 (q2.par.toNat : Int), .int .u64 (q2.seq.toNat : Int), .int .u64 (q2.off.toNat : Int), .int .u64 (q2.tim.toNat : Int), .int .u32 (q2.sch.toNat : Int), .slice A2 q2.ms.length c2].toList
  Y3 : BoxN w b11 [.int .u32 (sid.toNat : Int), .slice F sfs.length fc]
  T : TabR w w.heap.size sA sc ss nA nc ns
  r1 : Rd w w.heap.size 1 A1 q1.ms.length c1 (strsV q1.ms)
  r2 : Rd w w.heap.size 1 A2 q2.ms.length c2 (strsV q2.ms)
  r3 : Rd w w.heap.size 4 F sfs.length fc (fdsV sfs)
section
variable {w w' : World} {bx b7 b9 b11 : Nat} {sA : Option Addr} {sc : Nat} {ss : List Sl} {nA : Option Addr} {nc : Nat} {ns : List Nl} {cur : Nat} {q1 : Sn} {A1 : Option Addr} {c1 : Nat} {q2 : Sn} {A2 : Option Addr} {c2 : Nat} {sid : UInt32} {sfs : List Fd} {F : Option Addr} {fc : Nat}
theorem FindB.keep (h : FindB w bx b7 b9 b11 sA sc ss nA nc ns cur q1 A1 c1 q2 A2 c2 sid sfs F fc) (hb : Below w.heap.size w w') : FindB w' bx b7 b9 b11 sA sc ss nA nc ns cur q1 A1 c1 q2 A2 c2 sid sfs F fc :=
  ⟨h.X.keep hb h.X.z, h.Y1.keep hb h.Y1.z, h.Y2.keep hb h.Y2.z, h.Y3.keep hb h.Y3.z, h.T.later hb, (h.r1.below hb).more hb.size, (h.r2.below hb).more hb.size, (h.r3.below hb).more hb.size⟩
end
theorem snEq_self (p : Sn) : snEq p p = true := by
  unfold snEq
  simp [txEq]
theorem sameSch_self (id : UInt32) (l : List Fd) : sameSch id id l l = true := by
  unfold sameSch
  simp [fdEq]
/-- the same snapshot -/
theorem sameSnapT (w : World) (p : Sn) (A1 A2 : Option Addr) (c1 c2 : Nat) (hr1 : Rd w w.heap.size 1 A1 p.ms.length c1 (strsV p.ms)) (q : Sn) (hr2 : Rd w w.heap.size 1 A2 q.ms.length c2 (strsV q.ms)) (hq : p = q) :
    Calls Try.prog 40 #[.agg #[.int .u64 (p.id.toNat : Int), .int .u64 (p.par.toNat : Int), .int .u64 (p.seq.toNat : Int), .int .u64 (p.off.toNat : Int), .int .u64 (p.tim.toNat : Int), .int .u32 (p.sch.toNat : Int), .slice A1 p.ms.length c1], .agg #[.int .u64 (q.id.toNat : Int), .int .u64 (q.par.toNat : Int), .int .u64 (q.seq.toNat : Int), .int .u64 (q.off.toNat : Int), .int .u64 (q.tim.toNat : Int), .int .u32 (q.sch.toNat : Int), .slice A2 q.ms.length c2]] w (RetVal w (.bool true)) := by
  subst hq
  have h := refSameSnap w p p A1 A2 c1 c2 hr1 hr2
  rw [snEq_self] at h
  exact h
theorem sameSnap0 (w : World) (p : Sn) (A1 : Option Addr) (c1 : Nat) (hr1 : Rd w w.heap.size 1 A1 p.ms.length c1 (strsV p.ms)) (hq : p = default) :
    Calls Try.prog 40 #[.agg #[.int .u64 (p.id.toNat : Int), .int .u64 (p.par.toNat : Int), .int .u64 (p.seq.toNat : Int), .int .u64 (p.off.toNat : Int), .int .u64 (p.tim.toNat : Int), .int .u32 (p.sch.toNat : Int), .slice A1 p.ms.length c1], .agg #[.int .u64 0, .int .u64 0, .int .u64 0, .int .u64 0, .int .u64 0, .int .u32 0, .slice none 0 0]] w (RetVal w (.bool true)) :=
  sameSnapT w p A1 none c1 0 hr1 default (Rd.nil _ _ _) hq
theorem sameSchT (w : World) (i1 i2 : UInt32) (A1 A2 : Option Addr) (c1 c2 : Nat) (l1 l2 : List Fd) (hr1 : Rd w w.heap.size 4 A1 l1.length c1 (fdsV l1)) (hr2 : Rd w w.heap.size 4 A2 l2.length c2 (fdsV l2)) (hi : i1 = i2) (hl : l1 = l2) :
    Calls Try.prog 17 #[.agg #[.int .u32 (i1.toNat : Int), .slice A1 l1.length c1], .agg #[.int .u32 (i2.toNat : Int), .slice A2 l2.length c2]] w (RetVal w (.bool true)) := by
  subst hi hl
  have h := refSame w i1 i1 l1.length c1 l1.length c2 A1 A2 l1 l1 hr1 hr2
  rw [sameSch_self] at h
  exact h
theorem sameSch0 (w : World) (i1 : UInt32) (A1 : Option Addr) (c1 : Nat) (l1 : List Fd) (hr1 : Rd w w.heap.size 4 A1 l1.length c1 (fdsV l1)) (hi : i1 = 0) (hl : l1 = []) :
    Calls Try.prog 17 #[.agg #[.int .u32 (i1.toNat : Int), .slice A1 l1.length c1], .agg #[.int .u32 0, .slice none 0 0]] w (RetVal w (.bool true)) :=
  sameSchT w i1 0 A1 none c1 0 l1 [] hr1 (Rd.nil _ _ _) hi hl
end Go.Proofs.Ytlccpchlclpnaaa
