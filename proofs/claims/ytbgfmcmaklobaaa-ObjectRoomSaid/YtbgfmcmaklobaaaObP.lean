/- PLAIN: a store of objects: what its changes do. No statement of the seat is proved here; no condition. -/
import Derived.Test.YtbgfmcmaklobaaaO0
namespace Go.Proofs.Ytbgfmcmaklobaaa
open Go.RowKit

/-- an object -/
structure Th where
  bs : List UInt8
  loose : Bool
instance : Inhabited Th := ⟨⟨[], false⟩⟩
/-- objects by their names, each name once -/
abbrev Mp := List (ByteArray × Th)
def keyIs (s : ByteArray) (p : ByteArray × Th) : Bool := p.1.toList == s.toList
def mget (m : Mp) (s : ByteArray) : Option Th := (m.find? (keyIs s)).map (·.2)
def mhas (m : Mp) (s : ByteArray) : Bool := (mget m s).isSome
def mdel (m : Mp) (s : ByteArray) : Mp := m.filter fun p => !keyIs s p
def mput (m : Mp) (s : ByteArray) (t : Th) : Mp := mdel m s ++ [(s, t)]
def msum (m : Mp) : Nat := m.foldr (fun p n => p.2.bs.length + n) 0
def mdist (m : Mp) : Prop := m.Pairwise fun p q => p.1 ≠ q.1
theorem keyIs_iff {s : ByteArray} {p : ByteArray × Th} : keyIs s p = true ↔ p.1 = s := by
  unfold keyIs
  rw [beq_iff_eq]
  exact ⟨bytes_same, fun h => by rw [h]⟩
theorem mget_mem {m : Mp} {s : ByteArray} {t : Th} (h : mget m s = some t) : (s, t) ∈ m := by
  unfold mget at h
  cases hf : m.find? (keyIs s) with
  | none => rw [hf] at h; cases h
  | some p =>
    rw [hf] at h
    have h1 := List.mem_of_find?_eq_some hf
    have h2 := keyIs_iff.1 (List.find?_some hf)
    simp only [Option.map_some, Option.some.injEq] at h
    obtain ⟨a, b⟩ := p
    dsimp only at h h2
    rw [← h, ← h2]
    exact h1
theorem mget_none {m : Mp} {s : ByteArray} (h : mget m s = none) : ∀ p ∈ m, p.1 ≠ s := fun p hp q => by
  unfold mget at h
  rw [Option.map_eq_none_iff, List.find?_eq_none] at h
  exact h p hp (keyIs_iff.2 q)
theorem mget_of_mem {m : Mp} (hd : mdist m) {s : ByteArray} {t : Th} (h : (s, t) ∈ m) : mget m s = some t := by
  cases hg : mget m s with
  | none => exact absurd rfl (mget_none hg _ h)
  | some u =>
    have h2 := mget_mem hg
    by_cases e : (s, t) = (s, u)
    · rw [← (Prod.mk.inj e).2]
    · exfalso
      obtain ⟨i, hi, h3⟩ := List.getElem_of_mem h
      obtain ⟨j, hj, h4⟩ := List.getElem_of_mem h2
      rcases Nat.lt_trichotomy i j with q | q | q
      · exact (List.pairwise_iff_getElem.1 hd i j hi hj q) (by rw [h3, h4])
      · subst q
        exact e (h3.symm.trans h4)
      · exact (List.pairwise_iff_getElem.1 hd j i hj hi q) (by rw [h3, h4])
theorem mdel_mem {m : Mp} {s : ByteArray} {p : ByteArray × Th} : p ∈ mdel m s ↔ p ∈ m ∧ p.1 ≠ s := by
  unfold mdel
  rw [List.mem_filter]
  refine and_congr Iff.rfl ?_
  rw [Bool.not_eq_true', ← Bool.not_eq_true, keyIs_iff]
theorem mdel_dist {m : Mp} (h : mdist m) (s : ByteArray) : mdist (mdel m s) := h.filter _
theorem mput_dist {m : Mp} (h : mdist m) (s : ByteArray) (t : Th) : mdist (mput m s t) := by
  unfold mput mdist
  rw [List.pairwise_append]
  exact ⟨mdel_dist h s, by simp, fun a ha b hb => by rw [List.mem_singleton.1 hb]; exact (mdel_mem.1 ha).2⟩
theorem mget_put_same (m : Mp) (s : ByteArray) (t : Th) : mget (mput m s t) s = some t := by
  unfold mput mget
  rw [List.find?_append]
  have : (mdel m s).find? (keyIs s) = none := by
    rw [List.find?_eq_none]
    intro p hp q
    exact (mdel_mem.1 hp).2 (keyIs_iff.1 q)
  rw [this]
  simp [keyIs]
theorem mget_del_same (m : Mp) (s : ByteArray) : mget (mdel m s) s = none := by
  unfold mget
  have : (mdel m s).find? (keyIs s) = none := by
    rw [List.find?_eq_none]
    intro p hp q
    exact (mdel_mem.1 hp).2 (keyIs_iff.1 q)
  rw [this]
  rfl
theorem find_del_other {m : Mp} {s r : ByteArray} (h : r ≠ s) : (mdel m s).find? (keyIs r) = m.find? (keyIs r) := by
  induction m with
  | nil => rfl
  | cons p m ih =>
    unfold mdel at ih ⊢
    rw [List.filter_cons]
    cases hk : keyIs s p with
    | true =>
      rw [Bool.not_true, if_neg (by simp), ih, List.find?_cons]
      have : keyIs r p = false := by
        apply Bool.eq_false_iff.2
        intro q
        exact h ((keyIs_iff.1 q).symm.trans (keyIs_iff.1 hk))
      rw [this]
    | false =>
      rw [Bool.not_false, if_pos rfl, List.find?_cons, List.find?_cons, ih]
theorem mget_del_other {m : Mp} {s r : ByteArray} (h : r ≠ s) : mget (mdel m s) r = mget m r := by unfold mget; rw [find_del_other h]
theorem mget_put_other {m : Mp} {s r : ByteArray} {t : Th} (h : r ≠ s) : mget (mput m s t) r = mget m r := by
  unfold mput mget
  rw [List.find?_append, find_del_other h]
  have : ([(s, t)] : Mp).find? (keyIs r) = none := by
    rw [List.find?_eq_none]
    intro p hp q
    rw [List.mem_singleton.1 hp] at q
    exact h (keyIs_iff.1 q).symm
  rw [this, Option.or_none]
theorem mdel_len (m : Mp) (s : ByteArray) : (mdel m s).length ≤ m.length := List.length_filter_le _ _
theorem mput_len (m : Mp) (s : ByteArray) (t : Th) : (mput m s t).length ≤ m.length + 1 := by
  have := mdel_len m s
  unfold mput
  rw [List.length_append, List.length_singleton]
  omega
theorem msum_append (a b : Mp) : msum (a ++ b) = msum a + msum b := by
  induction a with
  | nil => simp [msum]
  | cons p a ih =>
    have e1 : msum (p :: a ++ b) = p.2.bs.length + msum (a ++ b) := rfl
    have e2 : msum (p :: a) = p.2.bs.length + msum a := rfl
    rw [e1, e2, ih]
    omega
theorem mdel_of_none {m : Mp} {s : ByteArray} (h : mget m s = none) : mdel m s = m := by
  unfold mdel
  rw [List.filter_eq_self]
  intro p hp
  rw [Bool.not_eq_true', ← Bool.not_eq_true, keyIs_iff]
  exact mget_none h p hp
theorem msum_del {m : Mp} (hd : mdist m) {s : ByteArray} {t : Th} (h : mget m s = some t) : msum (mdel m s) + t.bs.length = msum m := by
  induction m with
  | nil => cases h
  | cons p m ih =>
    have hd2 : mdist m := (List.pairwise_cons.1 hd).2
    have e2 : msum (p :: m) = p.2.bs.length + msum m := rfl
    by_cases hk : p.1 = s
    · have e1 : mdel (p :: m) s = m := by
        have : mdel (p :: m) s = mdel m s := by unfold mdel; rw [List.filter_cons, keyIs_iff.2 hk]; rfl
        rw [this]
        unfold mdel
        rw [List.filter_eq_self]
        intro q hq
        rw [Bool.not_eq_true', ← Bool.not_eq_true, keyIs_iff]
        intro r
        exact (List.pairwise_cons.1 hd).1 q hq (hk.trans r.symm)
      have e3 : p.2 = t := by
        have : mget (p :: m) s = some p.2 := by unfold mget; rw [List.find?_cons, keyIs_iff.2 hk]; rfl
        rw [h] at this
        injection this with this
        exact this.symm
      rw [e1, e2, e3]
      omega
    · have hk' : keyIs s p = false := by apply Bool.eq_false_iff.2; rw [ne_eq, keyIs_iff]; exact hk
      have e1 : mdel (p :: m) s = p :: mdel m s := by unfold mdel; rw [List.filter_cons, hk']; rfl
      have e3 : mget m s = some t := by
        have : mget (p :: m) s = mget m s := by unfold mget; rw [List.find?_cons, hk']
        rw [← this]; exact h
      have := ih hd2 e3
      rw [e1, e2]
      have e4 : msum (p :: mdel m s) = p.2.bs.length + msum (mdel m s) := rfl
      rw [e4]
      omega
/-- a store -/
structure So where
  quota : Int
  used : Int
  m : Mp
  cell : ByteArray
  fuse : Int
  fault : Int
  dead : Bool
def So.new (q : Int) : So := ⟨max 0 q, 0, [], ⟨#[]⟩, -1, -1, false⟩
def So.change (s : So) : So × Nat :=
  if s.fuse = 0 then ({ s with dead := true }, 120) else ({ s with fuse := max (s.fuse - 1) (-1), fault := max (s.fault - 1) (-1) }, if s.fault = 0 then 121 else 0)
def So.add (s : So) (nm : ByteArray) (bs : List UInt8) : So := { s with m := mput s.m nm ⟨bs, true⟩, used := s.used + bs.length }
def So.put (s : So) (nm : ByteArray) (bs : List UInt8) : So × Nat :=
  if s.dead = true then (s, 120) else if pathOk nm = false then (s, 1) else if mhas s.m nm = true then (s, 3) else if 65536 < bs.length then (s, 5) else if s.quota - s.used < bs.length then (s, 122)
  else if s.change.2 = 121 then s.change else (s.change.1.add nm bs, s.change.2)
def So.sync (s : So) (nm : ByteArray) : So × Nat :=
  if s.dead = true then (s, 120) else match mget s.m nm with
    | none => (s, 2)
    | some t => if s.change.2 = 0 then ({ s.change.1 with m := mput s.change.1.m nm ⟨t.bs, false⟩ }, 0) else s.change
def So.drop (s : So) (nm : ByteArray) : So := match mget s.m nm with
  | none => { s with m := mdel s.m nm }
  | some t => { s with m := mdel s.m nm, used := s.used - t.bs.length }
def So.del (s : So) (nm : ByteArray) : So × Nat :=
  if s.dead = true then (s, 120) else if mhas s.m nm = false then (s, 2) else if s.change.2 = 0 then (s.change.1.drop nm, 0) else s.change
def So.swap (s : So) (old nw : ByteArray) : So × Nat :=
  if s.dead = true then (s, 120) else if (s.cell.toList == old.toList) = false then (s, 123) else if pathOk nw = false then (s, 1) else if s.change.2 = 0 then ({ s.change.1 with cell := nw }, 0) else s.change
def So.get (s : So) (nm : ByteArray) : List UInt8 × Nat := if s.dead = true then ([], 120) else match mget s.m nm with | none => ([], 2) | some t => (t.bs, 0)
structure So.ok (s : So) : Prop where
  q0 : 0 ≤ s.quota
  q1 : s.quota ≤ 9223372036854775807
  us : s.used = msum s.m
  uq : s.used ≤ s.quota
  f0 : -1 ≤ s.fuse
  f1 : s.fuse ≤ 9223372036854775807
  g0 : -1 ≤ s.fault
  g1 : s.fault ≤ 9223372036854775807
  di : mdist s.m
theorem So.ok.change {s : So} (h : s.ok) : s.change.1.ok := by
  obtain ⟨a, b, c, d, e, f, g, i, j⟩ := h
  unfold So.change
  split
  · exact ⟨a, b, c, d, e, f, g, i, j⟩
  · exact ⟨a, b, c, d, by dsimp only; omega, by dsimp only; omega, by dsimp only; omega, by dsimp only; omega, j⟩
theorem So.change_m (s : So) : s.change.1.m = s.m := by unfold So.change; split <;> rfl
theorem So.change_used (s : So) : s.change.1.used = s.used := by unfold So.change; split <;> rfl
theorem So.change_quota (s : So) : s.change.1.quota = s.quota := by unfold So.change; split <;> rfl
theorem So.ok.add {s : So} (h : s.ok) {nm : ByteArray} {bs : List UInt8} (hn : mget s.m nm = none) (hq : (bs.length : Int) ≤ s.quota - s.used) : (s.add nm bs).ok := by
  obtain ⟨a, b, c, d, e, f, g, i, j⟩ := h
  refine ⟨a, b, ?_, by show s.used + bs.length ≤ s.quota; omega, e, f, g, i, mput_dist j nm _⟩
  show s.used + bs.length = msum (mput s.m nm ⟨bs, true⟩)
  unfold mput
  rw [mdel_of_none hn, msum_append, c]
  have : msum [(nm, (⟨bs, true⟩ : Th))] = bs.length := by simp [msum]
  rw [this]
  omega
theorem So.ok.drop {s : So} (h : s.ok) (nm : ByteArray) : (s.drop nm).ok := by
  obtain ⟨a, b, c, d, e, f, g, i, j⟩ := h
  unfold So.drop
  split
  · rename_i hm
    rw [mdel_of_none hm]
    exact ⟨a, b, c, d, e, f, g, i, j⟩
  · rename_i t hm
    have := msum_del j hm
    exact ⟨a, b, by dsimp only; omega, by dsimp only; omega, e, f, g, i, mdel_dist j nm⟩
end Go.Proofs.Ytbgfmcmaklobaaa
