/- PLAIN: all objects of a store that is alive are taken away, one by one: nothing is left. No statement of the seat is proved here; no condition. -/
import Derived.Test.YtbgfmcmaklobaaaObG
namespace Go.Proofs.Ytbgfmcmaklobaaa
open Go.RowKit

structure So.calm (s : So) : Prop where
  dead : s.dead = false
  fuse : s.fuse = -1
  fault : s.fault = -1
theorem So.calm.drop {s : So} (h : s.calm) (nm : ByteArray) : (s.drop nm).calm := by
  unfold So.drop
  split
  · exact ⟨h.dead, h.fuse, h.fault⟩
  · exact ⟨h.dead, h.fuse, h.fault⟩
theorem So.calm.change {s : So} (h : s.calm) : s.change = (s, 0) := by
  obtain ⟨a, b, c⟩ := h
  obtain ⟨q, u, m, ce, fu, fa, de⟩ := s
  dsimp only at a b c
  subst a b c
  rfl
theorem So.calm.del {s : So} (h : s.calm) {nm : ByteArray} (hm : mhas s.m nm = true) : s.del nm = (s.drop nm, 0) := by
  rw [So.del_on h.dead hm, h.change]
  rfl
theorem drop_m (s : So) (nm : ByteArray) : (s.drop nm).m = mdel s.m nm := by
  unfold So.drop
  split <;> rfl
def dropN (s : So) (ns : List ByteArray) : Nat → So
  | 0 => s
  | k + 1 => (dropN s ns k).drop (ns.getD k ByteArray.empty)
theorem dropN_calm {s : So} (h : s.calm) (ns : List ByteArray) : ∀ k, (dropN s ns k).calm
  | 0 => h
  | k + 1 => (dropN_calm h ns k).drop _
theorem dropN_quota (s : So) (ns : List ByteArray) : ∀ k, (dropN s ns k).quota = s.quota
  | 0 => rfl
  | k + 1 => ((le_drop 0 _ _).quota).trans (dropN_quota s ns k)
theorem names_dist {m : Mp} (hd : mdist m) : (namesM m).Pairwise (· ≠ ·) := by
  unfold namesM
  rw [List.pairwise_map]
  have h1 : ((keysM m).mergeSort leB).Pairwise (· ≠ ·) := by
    refine ((List.mergeSort_perm (keysM m) leB).pairwise_iff (fun h q => h q.symm)).2 ?_
    unfold keysM
    rw [List.pairwise_map]
    refine List.Pairwise.imp ?_ hd
    intro a b h q
    apply h
    have := congrArg nmOf q
    rwa [nmOf_data, nmOf_data] at this
  refine h1.imp ?_
  intro a b h q
  apply h
  have : (nmOf a).data.toList = (nmOf b).data.toList := by rw [q]
  simpa [nmOf] using this
theorem mem_names {m : Mp} {p : ByteArray × Th} (h : p ∈ m) : p.1 ∈ namesM m := by
  unfold namesM
  rw [List.mem_map]
  refine ⟨p.1.data.toList, (List.mergeSort_perm _ _).mem_iff.2 ?_, nmOf_data _⟩
  unfold keysM
  exact List.mem_map.2 ⟨p, h, rfl⟩
theorem dropN_mem {s : So} {ns : List ByteArray} {p : ByteArray × Th} : ∀ k, p ∈ (dropN s ns k).m → p ∈ s.m ∧ ∀ j, j < k → p.1 ≠ ns.getD j ByteArray.empty
  | 0, h => ⟨h, fun j hj => by omega⟩
  | k + 1, h => by
    have h1 : p ∈ mdel (dropN s ns k).m (ns.getD k ByteArray.empty) := by rw [← drop_m]; exact h
    obtain ⟨h2, h3⟩ := mdel_mem.1 h1
    obtain ⟨h4, h5⟩ := dropN_mem k h2
    refine ⟨h4, fun j hj => ?_⟩
    by_cases e : j = k
    · rw [e]; exact h3
    · exact h5 j (by omega)
theorem dropN_has {s : So} (hd : mdist s.m) {ns : List ByteArray} (hn : ns = namesM s.m) : ∀ k j, k ≤ j → j < ns.length → mget (dropN s ns k).m (ns.getD j ByteArray.empty) = mget s.m (ns.getD j ByteArray.empty)
  | 0, j, _, _ => rfl
  | k + 1, j, hj, hl => by
    have h1 := dropN_has hd hn k j (by omega) hl
    have hne : ns.getD j ByteArray.empty ≠ ns.getD k ByteArray.empty := by
      have h2 := names_dist hd
      rw [← hn] at h2
      have h3 := (List.pairwise_iff_getElem.1 h2) k j (by omega) hl (by omega)
      rw [List.getD_eq_getElem?_getD, List.getD_eq_getElem?_getD, List.getElem?_eq_getElem hl, List.getElem?_eq_getElem (show k < ns.length by omega)]
      exact fun q => h3 q.symm
    have e : (dropN s ns (k + 1)).m = mdel (dropN s ns k).m (ns.getD k ByteArray.empty) := drop_m _ _
    rw [e, mget_del_other hne, h1]
theorem dropN_at {s : So} (hd : mdist s.m) {ns : List ByteArray} (hn : ns = namesM s.m) {k : Nat} (hk : k < ns.length) : mhas (dropN s ns k).m (ns.getD k ByteArray.empty) = true := by
  unfold mhas
  rw [dropN_has hd hn k k (Nat.le_refl _) hk]
  have hm : ns.getD k ByteArray.empty ∈ namesM s.m := by
    rw [← hn, List.getD_eq_getElem?_getD, List.getElem?_eq_getElem hk]
    exact List.getElem_mem hk
  obtain ⟨t, ht⟩ := names_has hm
  rw [ht]
  rfl
theorem dropN_all {s : So} {ns : List ByteArray} (hn : ns = namesM s.m) : (dropN s ns ns.length).m = [] := by
  rw [List.eq_nil_iff_forall_not_mem]
  intro p hp
  obtain ⟨h1, h2⟩ := dropN_mem _ hp
  have h3 := mem_names h1
  rw [← hn] at h3
  obtain ⟨j, hj, e⟩ := List.getElem_of_mem h3
  refine h2 j hj ?_
  rw [List.getD_eq_getElem?_getD, List.getElem?_eq_getElem hj]
  exact e.symm
theorem dropN_used {s : So} {ns : List ByteArray} (hn : ns = namesM s.m) (h : (dropN s ns ns.length).ok) : (dropN s ns ns.length).used = 0 := by
  rw [h.us, dropN_all hn]
  rfl
theorem crash_calm (s : So) (keep : List Int) : (s.crash keep).calm := ⟨rfl, rfl, rfl⟩
end Go.Proofs.Ytbgfmcmaklobaaa
