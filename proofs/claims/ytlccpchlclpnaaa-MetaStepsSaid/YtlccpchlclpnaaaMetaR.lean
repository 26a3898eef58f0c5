/- PLAIN: which tables may be. No program in sight; no statement of the seat is proved here; no condition. -/
import Derived.Test.YtlccpchlclpnaaaMetaC
namespace Go.Proofs.Ytlccpchlclpnaaa

abbrev Ps := UInt32 × List Fd
def ps0 : Ps := (0, [])
def wasP (ss : List Ps) (i : Nat) : Ps := if i = 0 then ps0 else ss.getD (i - 1) ps0
def sOk (ss : List Ps) (i : Nat) : Bool :=
  decide (check (ss.getD i ps0).1 (ss.getD i ps0).2 = 0) && (decide ((wasP ss i).1.toNat < (ss.getD i ps0).1.toNat) && (decide ((wasP ss i).2.length ≤ (ss.getD i ps0).2.length) && fdsEq ((ss.getD i ps0).2.take (wasP ss i).2.length) (wasP ss i).2))
def wasN (ns : List Sn) (i : Nat) : Sn := if i = 0 then default else ns.getD (i - 1) default
def hasSch (ss : List Ps) (id : UInt32) : Bool := ss.any fun s => (s.1.toNat : Int) == (id.toNat : Int)
def nOk (ss : List Ps) (ns : List Sn) (i : Nat) : Bool :=
  decide ((wasN ns i).id.toNat < (ns.getD i default).id.toNat) && (decide ((ns.getD i default).id.toNat ≤ 1073741824) && (decide ((ns.getD i default).par.toNat < (ns.getD i default).id.toNat) &&
  (decide ((ns.getD i default).seq.toNat ≤ 1073741824 ∧ (ns.getD i default).off.toNat ≤ 1073741824 ∧ (ns.getD i default).tim.toNat ≤ 1073741824) &&
  (decide ((wasN ns i).seq.toNat ≤ (ns.getD i default).seq.toNat) && (decide ((wasN ns i).off.toNat ≤ (ns.getD i default).off.toNat) && (decide ((wasN ns i).tim.toNat ≤ (ns.getD i default).tim.toNat) && (decide ((wasN ns i).sch.toNat ≤ (ns.getD i default).sch.toNat) &&
  (namesOk (ns.getD i default).ms && hasSch ss (ns.getD i default).sch))))))))
def rightP (ss : List Ps) (ns : List Sn) (cur : Nat) : Bool :=
  decide (1 ≤ ss.length ∧ ss.length ≤ 16 ∧ ns.length ≤ 32) && ((List.range ss.length).all (sOk ss) && ((List.range ns.length).all (nOk ss ns) && decide (cur = (wasN ns ns.length).id.toNat)))
theorem plS_get (ss : List Sl) (i : Nat) : (ss.map plS).getD i ps0 = plS (ss.getD i default) := by
  simp [List.getD]
  cases ss[i]? <;> rfl
theorem plN_get (ns : List Nl) (i : Nat) : (ns.map plN).getD i default = plN (ns.getD i default) := by
  simp [List.getD]
  cases ns[i]? <;> rfl
theorem wasP_succ (ss : List Ps) (k : Nat) : wasP ss (k + 1) = ss.getD k ps0 := by unfold wasP; simp
theorem wasN_succ (ns : List Sn) (k : Nat) : wasN ns (k + 1) = ns.getD k default := by unfold wasN; simp
theorem has_any (ss : List Sl) (id : UInt32) : hasSch (ss.map plS) id = decide (0 ≤ cIx ss id) := by
  unfold cIx hasSch
  rw [ixA_ge, List.any_map]
  rfl
section
variable {ss : List Ps} {ns : List Sn} {i : Nat} {s was : Ps}
theorem sOk_eq (hs : ss.getD i ps0 = s) (hw : wasP ss i = was) : sOk ss i = (decide (check s.1 s.2 = 0) && (decide (was.1.toNat < s.1.toNat) && (decide (was.2.length ≤ s.2.length) && fdsEq (s.2.take was.2.length) was.2))) := by
  unfold sOk; rw [hs, hw]
theorem nOk_eq {s was : Sn} (hs : ns.getD i default = s) (hw : wasN ns i = was) : nOk ss ns i = (decide (was.id.toNat < s.id.toNat) && (decide (s.id.toNat ≤ 1073741824) && (decide (s.par.toNat < s.id.toNat) && (decide (s.seq.toNat ≤ 1073741824 ∧ s.off.toNat ≤ 1073741824 ∧ s.tim.toNat ≤ 1073741824) &&
    (decide (was.seq.toNat ≤ s.seq.toNat) && (decide (was.off.toNat ≤ s.off.toNat) && (decide (was.tim.toNat ≤ s.tim.toNat) && (decide (was.sch.toNat ≤ s.sch.toNat) && (namesOk s.ms && hasSch ss s.sch))))))))) := by
  unfold nOk; rw [hs, hw]
theorem right_len {cur : Nat} (h : ¬ (1 ≤ ss.length ∧ ss.length ≤ 16 ∧ ns.length ≤ 32)) : rightP ss ns cur = false := by unfold rightP; rw [decide_eq_false h]; rfl
theorem right_s {cur : Nat} (hi : i < ss.length) (h : sOk ss i = false) : rightP ss ns cur = false := by
  unfold rightP; rw [range_bad hi h]; simp
theorem right_n {cur : Nat} (hi : i < ns.length) (h : nOk ss ns i = false) : rightP ss ns cur = false := by
  unfold rightP; rw [range_bad hi h]; simp
theorem right_all {cur : Nat} (h : 1 ≤ ss.length ∧ ss.length ≤ 16 ∧ ns.length ≤ 32) (hs : ∀ j, j < ss.length → sOk ss j = true) (hn : ∀ j, j < ns.length → nOk ss ns j = true) : rightP ss ns cur = decide (cur = (wasN ns ns.length).id.toNat) := by
  unfold rightP; rw [decide_eq_true h, range_good hs, range_good hn]; rfl
end
end Go.Proofs.Ytlccpchlclpnaaa
