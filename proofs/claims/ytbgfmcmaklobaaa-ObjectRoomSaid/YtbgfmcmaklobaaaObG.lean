/- PLAIN: what a store's changes leave of its size. No statement of the seat is proved here; no condition. -/
import Derived.Test.YtbgfmcmaklobaaaObR
namespace Go.Proofs.Ytbgfmcmaklobaaa
open Go.RowKit

def So.small (s : So) : Prop := ∀ p ∈ s.m, p.2.bs.length ≤ 65536
structure SoLe (k : Nat) (s s2 : So) : Prop where
  len : s2.m.length ≤ s.m.length + k
  quota : s2.quota = s.quota
  small : s.small → s2.small
theorem SoLe.refl (k : Nat) (s : So) : SoLe k s s := ⟨Nat.le_add_right _ _, rfl, id⟩
theorem SoLe.of {k : Nat} {s s2 : So} (hm : s2.m = s.m) (hq : s2.quota = s.quota) : SoLe k s s2 := ⟨by rw [hm]; omega, hq, fun h p hp => h p (by rw [← hm]; exact hp)⟩
theorem SoLe.trans {a b : Nat} {s t u : So} (h : SoLe a s t) (k : SoLe b t u) : SoLe (a + b) s u := ⟨by have := h.len; have := k.len; omega, k.quota.trans h.quota, fun q => k.small (h.small q)⟩
theorem SoLe.more {a b : Nat} {s t : So} (h : SoLe a s t) (hab : a ≤ b) : SoLe b s t := ⟨by have := h.len; omega, h.quota, h.small⟩
theorem le_change (k : Nat) (s : So) : SoLe k s s.change.1 := .of s.change_m s.change_quota
theorem mem_put {m : Mp} {nm : ByteArray} {t : Th} {p : ByteArray × Th} (h : p ∈ mput m nm t) : p ∈ m ∨ p = (nm, t) := by
  unfold mput at h
  rcases List.mem_append.1 h with q | q
  · exact .inl (mdel_mem.1 q).1
  · exact .inr (List.mem_singleton.1 q)
theorem le_add (s : So) (nm : ByteArray) (bs : List UInt8) (h : bs.length ≤ 65536) : SoLe 1 s (s.add nm bs) :=
  ⟨mput_len _ _ _, rfl, fun hs p hp => by
    rcases mem_put hp with q | q
    · exact hs p q
    · rw [q]; exact h⟩
theorem le_put (s : So) (nm : ByteArray) (bs : List UInt8) : SoLe 1 s (s.put nm bs).1 := by
  unfold So.put
  split
  · exact .refl _ _
  split
  · exact .refl _ _
  split
  · exact .refl _ _
  split
  · exact .refl _ _
  split
  · exact .refl _ _
  split
  · exact le_change _ _
  · exact (le_change 0 s).trans (le_add _ nm bs (by omega))
theorem del_lt {m : Mp} {nm : ByteArray} {t : Th} (h : mget m nm = some t) : (mdel m nm).length + 1 ≤ m.length := by
  have h1 := mget_mem h
  unfold mdel
  induction m with
  | nil => cases h1
  | cons p m ih =>
    rw [List.filter_cons]
    cases hk : keyIs nm p with
    | true =>
      have := List.length_filter_le (fun p => !keyIs nm p) m
      simp only [Bool.not_true, Bool.false_eq_true, if_false, List.length_cons]
      omega
    | false =>
      have h2 : mget m nm = some t := by
        have : mget (p :: m) nm = mget m nm := by unfold mget; rw [List.find?_cons, hk]
        rw [← this]; exact h
      have := ih h2 (mget_mem h2)
      simp only [Bool.not_false, if_true, List.length_cons]
      omega
theorem le_turn (k : Nat) {s : So} {nm : ByteArray} {t : Th} (h : mget s.m nm = some t) (u : Th) (hu : u.bs.length ≤ t.bs.length) {x : Int} : SoLe k s { s with m := mput s.m nm u, used := x } :=
  ⟨by
    show (mdel s.m nm ++ [(nm, u)]).length ≤ _
    have := del_lt h
    rw [List.length_append, List.length_singleton]
    omega, rfl, fun hs p hp => by
    rcases mem_put hp with q | q
    · exact hs p q
    · rw [q]
      exact Nat.le_trans hu (hs _ (mget_mem h))⟩
theorem le_sync (s : So) (nm : ByteArray) : SoLe 1 s (s.sync nm).1 := by
  unfold So.sync
  split
  · exact .refl _ _
  split
  · exact .refl _ _
  · rename_i t ht
    split
    · have hm : mget s.change.1.m nm = some t := by rw [s.change_m]; exact ht
      have h2 : SoLe 1 s.change.1 { s.change.1 with m := mput s.change.1.m nm ⟨t.bs, false⟩ } := le_turn 1 hm ⟨t.bs, false⟩ (Nat.le_refl _) (x := s.change.1.used)
      exact (le_change 0 s).trans (b := 1) h2
    · exact le_change _ _
theorem le_drop (k : Nat) (s : So) (nm : ByteArray) : SoLe k s (s.drop nm) := by
  unfold So.drop
  split
  · exact ⟨by show (mdel s.m nm).length ≤ _; have := mdel_len s.m nm; omega, rfl, fun hs p hp => hs p (mdel_mem.1 hp).1⟩
  · exact ⟨by show (mdel s.m nm).length ≤ _; have := mdel_len s.m nm; omega, rfl, fun hs p hp => hs p (mdel_mem.1 hp).1⟩
theorem le_del (s : So) (nm : ByteArray) : SoLe 1 s (s.del nm).1 := by
  unfold So.del
  split
  · exact .refl _ _
  split
  · exact .refl _ _
  split
  · exact (le_change 0 s).trans (le_drop 1 _ nm)
  · exact le_change _ _
theorem le_swap (s : So) (o nw : ByteArray) : SoLe 1 s (s.swap o nw).1 := by
  unfold So.swap
  split
  · exact .refl _ _
  split
  · exact .refl _ _
  split
  · exact .refl _ _
  split
  · have h2 : SoLe 1 s.change.1 { s.change.1 with cell := nw } := .of rfl rfl
    exact (le_change 0 s).trans (b := 1) h2
  · exact le_change _ _
theorem le_trunc (k : Nat) (s : So) (nm : ByteArray) (n : Nat) : SoLe k s (s.trunc nm n) := by
  unfold So.trunc
  split
  · exact .refl _ _
  · rename_i t ht
    exact le_turn k ht ⟨t.bs.take n, false⟩ (by show (t.bs.take n).length ≤ _; rw [List.length_take]; omega)
theorem le_crashN (s : So) (ns : List ByteArray) (keep : List Int) : ∀ k, SoLe 0 s (crashN s ns keep k)
  | 0 => .refl _ _
  | k + 1 => by
    refine (le_crashN s ns keep k).trans (b := 0) ?_
    show SoLe 0 _ (crashAt _ _ _ _)
    unfold crashAt
    split
    · exact le_drop 0 _ _
    · exact le_trunc 0 _ _ _
theorem le_crash (s : So) (keep : List Int) : SoLe 1 s (s.crash keep) := by
  have h2 : SoLe 1 (crashN s (looseM s.m) keep (looseM s.m).length) (s.crash keep) := .of rfl rfl
  exact (le_crashN s (looseM s.m) keep _).trans (b := 1) h2
theorem loose_len (m : Mp) : (looseM m).length ≤ m.length := by
  unfold looseM namesM keysM
  refine Nat.le_trans (List.length_filter_le _ _) ?_
  simp
theorem small_at {s : So} (h : s.small) {nm : ByteArray} : ∀ t, mget s.m nm = some t → t.bs.length ≤ 1000000 := fun t ht => by
  have := h _ (mget_mem ht)
  simp only at this
  omega
end Go.Proofs.Ytbgfmcmaklobaaa
