/- PLAIN: a table without some snapshots may be, if it could. No program in sight; no statement of the seat is proved here; no condition. WORDS of MetaSteps: tables in boxes; what the six calls give, in one form. No statement of the seat is proved here; no condition. -/
import Derived.Test.YtlccpchlclpnaaaMetaZ
import Derived.Test.YtlccpchlclpnaaaMetaRP
import Derived.Test.YtlccpchlclpnaaaMetaB
namespace Go.Proofs.Ytlccpchlclpnaaa

section
theorem getD_at {α : Type} (l : List α) (d : α) {i : Nat} (h : i < l.length) : l.getD i d = l[i] := by
  rw [List.getD, List.getElem?_eq_getElem h]
  rfl
def RN (a b : Sn) : Prop := a.id.toNat < b.id.toNat ∧ a.seq.toNat ≤ b.seq.toNat ∧ a.off.toNat ≤ b.off.toNat ∧ a.tim.toNat ≤ b.tim.toNat ∧ a.sch.toNat ≤ b.sch.toNat
def UN (ss : List Ps) (s : Sn) : Prop := s.id.toNat ≤ 1073741824 ∧ s.par.toNat < s.id.toNat ∧ (s.seq.toNat ≤ 1073741824 ∧ s.off.toNat ≤ 1073741824 ∧ s.tim.toNat ≤ 1073741824) ∧ namesOk s.ms = true ∧ hasSch ss s.sch = true
theorem nOk_iff {ss : List Ps} {ns : List Sn} {i : Nat} : nOk ss ns i = true ↔ RN (wasN ns i) (ns.getD i default) ∧ UN ss (ns.getD i default) := by
  unfold nOk RN UN
  simp only [Bool.and_eq_true, decide_eq_true_eq]
  constructor
  · rintro ⟨h1, h2, h3, h4, h5, h6, h7, h8, h9, h10⟩
    exact ⟨⟨h1, h5, h6, h7, h8⟩, h2, h3, h4, h9, h10⟩
  · rintro ⟨⟨h1, h5, h6, h7, h8⟩, h2, h3, h4, h9, h10⟩
    exact ⟨h1, h2, h3, h4, h5, h6, h7, h8, h9, h10⟩
theorem RN.trans {a b c : Sn} (h : RN a b) (k : RN b c) : RN a c := by
  unfold RN at *
  omega
theorem was_getD (ns : List Sn) (i : Nat) (hi : i ≤ ns.length) : wasN ns i = (default :: ns).getD i default := by
  unfold wasN
  cases i with
  | zero => rfl
  | succ i => simp [List.getD]
theorem pair_of {ns : List Sn} (h : ∀ i, i < ns.length → RN (wasN ns i) (ns.getD i default)) : (default :: ns).Pairwise RN := by
  rw [List.pairwise_iff_getElem]
  have key : ∀ j i, i < j → j < (default :: ns).length → RN ((default :: ns).getD i default) ((default :: ns).getD j default) := by
    intro j
    induction j with
    | zero => intro i hi; omega
    | succ j ih =>
      intro i hi hj
      have hj' : j < ns.length := by simpa using hj
      have h1 := h j hj'
      rw [was_getD ns j (by omega)] at h1
      have e : (default :: ns).getD (j + 1) default = ns.getD j default := by simp [List.getD]
      rw [e]
      by_cases e2 : i = j
      · rw [e2]; exact h1
      · exact (ih i (by omega) (by simp; omega)).trans h1
  intro i j hi hj hij
  have := key j i hij hj
  rw [getD_at _ _ hi, getD_at _ _ hj] at this
  exact this
theorem chain_of {ns : List Sn} (h : (default :: ns).Pairwise RN) {i : Nat} (hi : i < ns.length) : RN (wasN ns i) (ns.getD i default) := by
  rw [List.pairwise_iff_getElem] at h
  have h1 := h i (i + 1) (by simp; omega) (by simp; omega) (by omega)
  rw [was_getD ns i (by omega)]
  have e1 : (default :: ns).getD i default = (default :: ns)[i]'(by simp; omega) := getD_at _ _ _
  have e2 : ns.getD i default = (default :: ns)[i + 1]'(by simp; omega) := by rw [getD_at _ _ hi]; rfl
  rw [e1, e2]
  exact h1
theorem was_last (a : List Sn) (z : Sn) : wasN (a ++ [z]) (a ++ [z]).length = z := by
  unfold wasN
  rw [if_neg (by simp)]
  simp [List.getD]
theorem isIn_id {ids : List UInt64} {x y : UInt64} (h : x.toNat = y.toNat) : isIn ids x = isIn ids y := by
  unfold isIn
  rw [h]
theorem filter_last {ns : List Sn} {q : Sn → Bool} (h : ∀ s, ns ≠ [] → s = wasN ns ns.length → q s = true) : wasN (ns.filter q) (ns.filter q).length = wasN ns ns.length := by
  rcases List.eq_nil_or_concat ns with rfl | ⟨a, z, e⟩
  · rfl
  · rw [List.concat_eq_append] at e
    subst e
    have hz := h z (by simp) (was_last a z).symm
    rw [was_last, List.filter_append, List.filter_cons_of_pos hz, List.filter_nil, was_last]
theorem drop_right {ss : List Ps} {ns : List Sn} {cur : UInt64} {ids : List UInt64} (h : rightP ss ns cur.toNat = true) (hd : dropErr ns cur ids = 0) : rightP ss (ns.filter fun s => !isIn ids s.id) cur.toNat = true := by
  have hin : isIn ids cur = false := by
    unfold dropErr at hd
    split at hd
    · split at hd
      · cases hd
      · rename_i h2; simpa using h2
    · cases hd
  unfold rightP at h
  simp only [Bool.and_eq_true, decide_eq_true_eq, List.all_eq_true, List.mem_range] at h
  obtain ⟨⟨l1, l2, l3⟩, hs, hn, hc⟩ := h
  have hp := pair_of (fun i hi => (nOk_iff.1 (hn i hi)).1)
  have hu : ∀ s ∈ ns, UN ss s := fun s hs => by
    obtain ⟨j, hj, rfl⟩ := List.mem_iff_getElem.1 hs
    have := (nOk_iff.1 (hn j hj)).2
    simpa [List.getD, hj] using this
  have hp2 : (default :: ns.filter fun s => !isIn ids s.id).Pairwise RN := hp.sublist (List.Sublist.cons_cons _ (List.filter_sublist))
  have hl : (ns.filter fun s => !isIn ids s.id).length ≤ ns.length := List.length_filter_le _ _
  rw [right_all ⟨l1, l2, by omega⟩ hs (fun j hj => nOk_iff.2 ⟨chain_of hp2 hj, hu _ (by
    have : (ns.filter fun s => !isIn ids s.id).getD j default ∈ (ns.filter fun s => !isIn ids s.id) := getD_mem hj
    exact (List.mem_filter.1 this).1)⟩)]
  rw [filter_last (fun s _ e => by
    rw [isIn_id (x := s.id) (y := cur) (by rw [e]; exact hc.symm), hin]
    rfl)]
  exact decide_eq_true hc
end

section
open Go.RowKit

abbrev Res := Nat × List Ps × List Sn × Nat
def pushT (ss : List Ps) (ns : List Sn) (p : Sn) : Res := if pushErr ss ns p = 0 then (0, ss, ns ++ [p], p.id.toNat) else (pushErr ss ns p, [], [], 0)
def growT (ss : List Ps) (ns : List Sn) (cur : Nat) (s : Ps) : Res := if growErr ss ns cur s = 0 then (0, ss ++ [s], ns, cur) else (growErr ss ns cur s, [], [], 0)
def dropT (ss : List Ps) (ns : List Sn) (cur : UInt64) (ids : List UInt64) : Res := if dropErr ns cur ids = 0 then (0, ss, ns.filter (fun s => !isIn ids s.id), cur.toNat) else (dropErr ns cur ids, [], [], 0)
/-- a table that may be read, with an error -/
def ResT (w : World) (r : Res) (e : Ending) (w' : World) : Prop :=
  ∃ sA sc ss' nA nc ns', e = .returned (.tuple #[.agg #[.slice sA ss'.length sc, .slice nA ns'.length nc, .int .u64 (r.2.2.2 : Int)], .int .i64 (r.1 : Int)]) ∧ TabR w' w'.heap.size sA sc ss' nA nc ns' ∧ ss'.map plS = r.2.1 ∧ ns'.map plN = r.2.2.1 ∧ Below w.heap.size w w'
section
variable {w w' : World} {e : Ending} {er cu : Nat} {cs : List Ps} {cn : List Sn}
theorem step_res (h : StepEnd w er cs cn cu e w') : ResT w (er, cs, cn, cu) e w' := by
  obtain ⟨sA, sc, ss', nA, nc, ns', rfl, hO, h1, h2, hb⟩ := h
  exact ⟨sA, sc, ss', nA, nc, ns', rfl, hO.tab, h1, h2, hb⟩
theorem ref_res (h : RefEnd w er cs cn cu e w') : ResT w (er, cs, cn, cu) e w' := h
theorem push_res {ss : List Ps} {ns : List Sn} {p : Sn} (h : PushEnd w ss ns p e w') : ResT w (pushT ss ns p) e w' := by
  unfold PushEnd at h
  unfold pushT
  split at h
  · rename_i h0; rw [if_pos h0]; exact step_res h
  · rename_i h0; rw [if_neg h0]; exact step_res h
theorem rpush_res {ss : List Ps} {ns : List Sn} {p : Sn} (h : RefPushEnd w ss ns p e w') : ResT w (pushT ss ns p) e w' := by
  unfold RefPushEnd at h
  unfold pushT
  split at h
  · rename_i h0; rw [if_pos h0]; exact h
  · rename_i h0; rw [if_neg h0]; exact h
theorem grow_res {ss : List Ps} {ns : List Sn} {cur : Nat} {s : Ps} (h : GrowEnd w ss ns cur s e w') : ResT w (growT ss ns cur s) e w' := by
  unfold GrowEnd at h
  unfold growT
  split at h
  · rename_i h0; rw [if_pos h0]; exact step_res h
  · rename_i h0; rw [if_neg h0]; exact step_res h
theorem rgrow_res {ss : List Ps} {ns : List Sn} {cur : Nat} {s : Ps} (h : RefGrowEnd w ss ns cur s e w') : ResT w (growT ss ns cur s) e w' := by
  unfold RefGrowEnd at h
  unfold growT
  split at h
  · rename_i h0; rw [if_pos h0]; exact h
  · rename_i h0; rw [if_neg h0]; exact h
theorem drop_res {ss : List Ps} {ns : List Sn} {cur : UInt64} {ids : List UInt64} (h : DropEnd w ss ns cur ids e w') : ResT w (dropT ss ns cur ids) e w' := by
  unfold DropEnd at h
  unfold dropT
  split at h
  · rename_i h0; rw [if_pos h0]; exact step_res h
  · rename_i h0; rw [if_neg h0]; exact step_res h
theorem rdrop_res {ss : List Ps} {ns : List Sn} {cur : UInt64} {ids : List UInt64} (h : RefDropEnd w ss ns cur ids e w') : ResT w (dropT ss ns cur ids) e w' := by
  unfold RefDropEnd at h
  unfold dropT
  split at h
  · rename_i h0; rw [if_pos h0]; exact h
  · rename_i h0; rw [if_neg h0]; exact h
end
theorem drop_keeps {ss cs : List Ps} {ns cn : List Sn} {cur : UInt64} {ids : List UInt64} {cu : Nat} (h : dropT ss ns cur ids = (0, cs, cn, cu)) (hr : rightP ss ns cur.toNat = true) : rightP cs cn cu = true := by
  unfold dropT at h
  split at h
  · rename_i h0
    injection h with _ h
    injection h with h1 h
    injection h with h2 h3
    subst h1 h2 h3
    exact drop_right hr h0
  · rename_i h0
    injection h with h1 _
    exact absurd h1 h0
/-- a table in a box -/
structure TBox (w : World) (b : Nat) (sA : Option Addr) (sc : Nat) (ss : List Sl) (nA : Option Addr) (nc : Nat) (ns : List Nl) (cu : Nat) : Prop where
  bx : BoxN w b #[.slice sA ss.length sc, .slice nA ns.length nc, .int .u64 (cu : Int)].toList
  tab : TabR w w.heap.size sA sc ss nA nc ns
section
variable {w w' : World} {b : Nat} {sA : Option Addr} {sc : Nat} {ss : List Sl} {nA : Option Addr} {nc : Nat} {ns : List Nl} {cu : Nat}
theorem TBox.keep (h : TBox w b sA sc ss nA nc ns cu) (hb : Below w.heap.size w w') : TBox w' b sA sc ss nA nc ns cu := ⟨h.bx.keep hb h.bx.z, h.tab.later hb⟩
theorem TBox.new (h : TabR w w.heap.size sA sc ss nA nc ns) (cu : Nat) : TBox (w.alloc (.cells #[.slice sA ss.length sc, .slice nA ns.length nc, .int .u64 (cu : Int)] 70)) w.heap.size sA sc ss nA nc ns cu :=
  ⟨boxN_new w _ _, h.later ((Below.refl _ _).alloc (Nat.le_refl _) _)⟩
end
/-- the law's arguments in their boxes -/
structure StepB (w : World) (b4 b5 b6 : Nat) (sA : Option Addr) (sc : Nat) (ss : List Sl) (nA : Option Addr) (nc : Nat) (ns : List Nl) (cur : Nat) (p : Sn) (pA : Option Addr) (pc : Nat) (sid : UInt32) (sfs : List Fd) (fA : Option Addr) (fc : Nat) (ids : List UInt64) (iA : Option Addr) (ic : Nat) : Prop where
  t : TBox w b4 sA sc ss nA nc ns cur
  s : BoxN w b5 #[.int .u64 (p.id.toNat : Int), .int .u64 (p.par.toNat : Int), .int .u64 (p.seq.toNat : Int), .int .u64 (p.off.toNat : Int), .int .u64 (p.tim.toNat : Int), .int .u32 (p.sch.toNat : Int), .slice pA p.ms.length pc].toList
  h : BoxN w b6 [.int .u32 (sid.toNat : Int), .slice fA sfs.length fc]
  rs : Rd w w.heap.size 1 pA p.ms.length pc (strsV p.ms)
  rh : Rd w w.heap.size 4 fA sfs.length fc (fdsV sfs)
  ri : Rd w w.heap.size 1 iA ids.length ic (u64sV ids)
section
variable {w w' : World} {b4 b5 b6 : Nat} {sA : Option Addr} {sc : Nat} {ss : List Sl} {nA : Option Addr} {nc : Nat} {ns : List Nl} {cur : Nat} {p : Sn} {pA : Option Addr} {pc : Nat} {sid : UInt32} {sfs : List Fd} {fA : Option Addr} {fc : Nat} {ids : List UInt64} {iA : Option Addr} {ic : Nat}
theorem StepB.keep (q : StepB w b4 b5 b6 sA sc ss nA nc ns cur p pA pc sid sfs fA fc ids iA ic) (hb : Below w.heap.size w w') : StepB w' b4 b5 b6 sA sc ss nA nc ns cur p pA pc sid sfs fA fc ids iA ic :=
  ⟨q.t.keep hb, q.s.keep hb q.s.z, q.h.keep hb q.h.z, (q.rs.below hb).more hb.size, (q.rh.below hb).more hb.size, (q.ri.below hb).more hb.size⟩
end
theorem res_split (r : Res) : ∃ a b c d, r = (a, b, c, d) := ⟨r.1, r.2.1, r.2.2.1, r.2.2.2, rfl⟩
end
end Go.Proofs.Ytlccpchlclpnaaa
