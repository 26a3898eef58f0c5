/- THE WALK of the store's Loose. No statement of the seat is proved here; no condition but sizes. -/
import Derived.Test.YtbgfmcmaklobaaaObE
namespace Go.Proofs.Ytbgfmcmaklobaaa
open Go.RowKit

theorem tyStrs : STy Try.prog 32 9 1 16 (.string ByteArray.empty) := ⟨Try.underlying32, by kernel_rfl, rfl, by decide, by decide⟩
def nmOf (k : List UInt8) : ByteArray := ⟨k.toArray⟩
def keysM (m : Mp) : List (List UInt8) := m.map fun p => p.1.data.toList
def namesM (m : Mp) : List ByteArray := ((keysM m).mergeSort leB).map nmOf
def looseAt (m : Mp) (s : ByteArray) : Bool := match mget m s with | some t => t.loose | none => false
def looseM (m : Mp) : List ByteArray := (namesM m).filter (looseAt m)
theorem nmOf_data (s : ByteArray) : nmOf s.data.toList = s := by unfold nmOf; cases s; simp
theorem kLit_nm (x : List UInt8) : kLit (nmOf x) = .string x := by simp [kLit, nmOf]
theorem mem_keys {m : Mp} {x : List UInt8} : x ∈ keysM m ↔ mhas m (nmOf x) = true := by
  unfold keysM mhas
  rw [List.mem_map]
  constructor
  · rintro ⟨p, hp, rfl⟩
    rw [nmOf_data]
    cases hg : mget m p.1 with
    | some t => rfl
    | none => exact absurd rfl (mget_none hg p hp)
  · intro h
    obtain ⟨t, ht⟩ := Option.isSome_iff_exists.1 h
    exact ⟨_, mget_mem ht, by simp [nmOf]⟩
theorem MapR.keys {P : Nat → Prop} {w : World} {mb N : Nat} {m : Mp} {D : DataW Value} (h : MapR P w mb N m D) (hd : mdist m) : (keysM m).Perm (strKeys D) := by
  obtain ⟨es, rfl, hp⟩ := h.own.tidy kStr
  obtain ⟨es2, e, hk⟩ := h.own.keysOf
  injection e with e
  subst e
  refine perm_strKeys hp (fun p hpm => ?_) ?_ fun x => ?_
  · obtain ⟨key, hkey⟩ := hk p hpm
    obtain ⟨x, _, hx, _⟩ := Maps.keyOf_str Try.underlying9 hkey
    exact ⟨x, hx⟩
  · unfold keysM
    refine List.pairwise_map.2 (hd.imp fun {p q} hne e => hne ?_)
    rw [← nmOf_data p.1, ← nmOf_data q.1, e]
  · rw [mem_keys, ← h.has, kLit_nm]
theorem names_has {m : Mp} {s : ByteArray} (h : s ∈ namesM m) : ∃ t, mget m s = some t := by
  unfold namesM at h
  obtain ⟨x, hx, rfl⟩ := List.mem_map.1 h
  have : mhas m (nmOf x) = true := mem_keys.1 ((List.mergeSort_perm _ _).mem_iff.1 hx)
  exact Option.isSome_iff_exists.1 this
theorem MapR.size {P : Nat → Prop} {w : World} {mb N : Nat} {m : Mp} {D : DataW Value} (h : MapR P w mb N m D) {s : ByteArray} (hs : s ∈ namesM m) (hd : mdist m) : s.size ≤ maxLen := by
  unfold namesM at hs
  obtain ⟨x, hx, rfl⟩ := List.mem_map.1 hs
  have h1 : x ∈ keysM m := (List.mergeSort_perm _ _).mem_iff.1 hx
  have := strKeys_le h.own Try.underlying9 x ((h.keys hd).mem_iff.1 h1)
  show x.toArray.size ≤ maxLen
  simpa using this
def StrEnd (w : World) (l : List ByteArray) (e : Ending) (w' : World) : Prop :=
  Below w.heap.size w w' ∧ ∃ A c, e = .returned (.slice A l.length c) ∧ Rd w' w'.heap.size 1 A l.length c (strsV l) ∧ ∀ b, b < w.heap.size → some b ≠ (Value.slice A l.length c).ownBlock
set_option maxRecDepth 100000 in
set_option maxHeartbeats 4000000 in
theorem objLoose (P : Nat → Prop) (w : World) (sb mb N : Nat) (s : So) (h : StR P w sb mb N s) (hN : N ≤ 1000000) :
    Calls Try.prog 33 #[.pointer (some ⟨sb, 0, none⟩)] w (StrEnd w (looseM s.m)) := by
  have c2 := h.bx.cell 2 _ rfl
  obtain ⟨D, hD⟩ := h.mp
  have hsz := hD.own.size_le
  have hperm := hD.keys h.ok.di
  have hdi := h.ok.di
  go_enter Try.func33, Try.ntmps33
  go_wp2_with fail
  refine (callsIn_wide.1 (maps_Keys_35 (some mb) w)).mono ?_
  rintro e w1 ⟨rfl, rfl⟩
  have hb1 := (Below.refl w.heap.size w).alloc (Nat.le_refl _) (.cells #[.map (some mb)] 49)
  go_wp2_with fail
  refine (callsIn_wide.1 (slices_Sorted_keys_34_35 mb N D elR w hD.own (by unfold maxLen; omega) (by omega))).mono ?_
  rintro e w2 ⟨v2, ss, rfl, hss, hown2, _, hb2⟩
  have hsort : ss.mergeSort leB = (keysM s.m).mergeSort leB := mergeSort_of_perm (hss.trans hperm.symm)
  have hssl : ss.length = (namesM s.m).length := by unfold namesM; rw [List.length_map, ← hsort, List.length_mergeSort]
  have hrow : (ss.mergeSort fun x y => decide (x ≤ y)).map Go.Proofs.encStr = strsV (namesM s.m) := by
    show (ss.mergeSort leB).map Go.Proofs.encStr = _
    rw [hsort]
    unfold strsV namesM
    rw [List.map_map]
    rfl
  rw [hrow, hssl] at hown2
  obtain ⟨A2, c2', rfl⟩ := own_slice hown2
  have hr2 := rd_own hown2
  have hB2 := below_call hb1 hb1.size hb2
  have HNS := hide (And.intro hD hdi)
  obtain ⟨ns, hns⟩ : ∃ ns, namesM s.m = ns := ⟨_, rfl⟩
  rw [hns] at hr2 ⊢
  have HN := hide hns
  have hmax : ns.length ≤ 9223372036854775807 := by have h1 := hr2.le; have h2 := hr2.cap; unfold maxLen at h2; omega
  have hnl : ns.length ≤ 1000000 := by
    have h1 : ns.length = ss.length := by rw [hssl, hns]
    have h2 := hss.length_eq
    have h3 : (strKeys D).length = Maps.size D := by
      obtain ⟨es, rfl, _⟩ := hD.own.tidy kStr
      simp [strKeys, Maps.size]
    omega
  clear hown2 hrow hssl hsort hss hb1 hb2 hperm hD hsz c2 hns
  go_wp2_with fail
  go_loopw [3, 13] (fun v3 iv wr => ∃ (k : Nat) (oA : Option Addr) (oc : Nat) (out : List ByteArray), v3 = .slice oA out.length oc ∧ iv = .int .i64 (k : Int) ∧ k ≤ ns.length ∧ Hid (out = (ns.take k).filter (looseAt s.m)) ∧ out.length ≤ k ∧ wr.ownsRow w2.heap.size 9 1 (.slice oA out.length oc) out.length (strsV out) ∧ Below w2.heap.size w2 wr) (fun _ iv _ => ns.length - (intOf iv).toNat)
  case atStart => exact ⟨0, none, 0, [], rfl, rfl, Nat.zero_le _, hide (by simp), Nat.le_refl _, World.ownsRow_nil _ _ _ _, Below.refl _ _⟩
  case round =>
    obtain ⟨k, oA, oc, out, rfl, rfl, hk, hout, hol, hown, hbr⟩ := hrel
    have hbw := hB2.trans (hbr.mono hB2.size)
    by_cases hlt : k < ns.length
    · have hr := hr2.below hbr
      obtain ⟨b, off, rfl, hb, hc⟩ := hr.at_ (by omega)
      obtain ⟨nm, hnm⟩ : ∃ nm, ns.getD k ByteArray.empty = nm := ⟨_, rfl⟩
      have hnk : ns[k]? = some nm := by rw [← hnm, List.getD_eq_getElem?_getD, List.getElem?_eq_getElem hlt]; rfl
      have hcell := hc k (.string nm) (by unfold strsV; rw [List.getElem?_map, hnk]; rfl)
      have hmem : nm ∈ namesM s.m := by rw [HN.out]; exact List.mem_of_getElem? hnk
      obtain ⟨t, ht⟩ := names_has hmem
      have hnms := HNS.out.1.size hmem HNS.out.2
      have hmpW := HNS.out.1.keep (w' := wr) hbw
      obtain ⟨A, c, _, hlk, _⟩ := hmpW.some_ ht hnms
      have hfl := field_l A t.bs.length c t.loose
      have k2 := (h.keep hbw).bx.cell 2 _ rfl
      have htk : ns.take (k + 1) = ns.take k ++ [nm] := by rw [List.take_add_one, hnk]; rfl
      have HTK : Hid ((ns.take (k + 1)).filter (looseAt s.m) = out ++ (if t.loose = true then [nm] else [])) := hide (by
        rw [htk, List.filter_append, ← hout.out]
        have e : looseAt s.m nm = t.loose := by unfold looseAt; rw [ht]
        rw [List.filter_cons, e]
        cases t.loose <;> simp)
      obtain ⟨lo, hlo⟩ : ∃ lo, t.loose = lo := ⟨_, rfl⟩
      rw [hlo] at hfl hlk HTK
      clear hnm hnk hc hmem ht hmpW htk hlo
      cases lo with
      | false =>
        go_wp2_with fail
        go_roundw
        case rel => exact ⟨k + 1, oA, oc, out, rfl, by go_num, hlt, hide (by rw [HTK.out]; simp), by omega, hown, hbr⟩
        case measure => simp [intOf]; omega
      | true =>
        have hbL := (Below.refl wr.heap.size wr).alloc (Nat.le_refl _) (.cells #[.string nm] 9)
        have hom := own_below hown hbL
        have hrL : Rd (wr.alloc (.cells #[.string nm] 9)) (wr.heap.size + 1) 1 (some ⟨wr.heap.size, 0, none⟩) 1 1 (strsV [nm]) := Rd.lit (n := 1) (sz := 1) wr 9 #[.string nm] rfl (by unfold maxLen; omega)
        have hz6 : w2.heap.size ≤ (wr.alloc (.cells #[.string nm] 9)).heap.size := Nat.le_trans hbr.size hbL.size
        have HB := hide ((Below.refl w2.heap.size wr).alloc hbr.size (.cells #[.string nm] 9))
        go_wp2_with (at_builtin; refine wpList_app _ tyStrs rfl (.tmp 24) (.tmp 26) rfl w2.heap.size _ out.length (strsV out) rfl hom (wr.heap.size + 1) _ 1 1 _ rfl hrL (strsV_one [nm]) (by omega) hz6 ?_; intro v8 w8 hown8 hg8 _)
        have hb8 := below_app HB.out (Nat.le_refl _) hom hg8 hz6
        have e1 : (out ++ [nm]).length = out.length + 1 := by simp
        have e2 : strsV (out ++ [nm]) = strsV out ++ strsV [nm] := by simp [strsV]
        obtain ⟨g, cap, rfl, _, _⟩ := hown8.form (by omega)
        have hown9 : w8.ownsRow w2.heap.size 9 1 (.slice (some ⟨g, 0, none⟩) (out ++ [nm]).length cap) (out ++ [nm]).length (strsV (out ++ [nm])) := by rw [e1, e2]; exact hown8
        have hbr9 := hbr.trans hb8
        rw [← e1]
        clear hown8 hg8 hom hrL k2 hcell
        go_wp2_with fail
        go_roundw
        case rel => exact ⟨k + 1, some ⟨g, 0, none⟩, cap, out ++ [nm], rfl, by go_num, hlt, hide (by rw [HTK.out]; simp), by rw [e1]; omega, hown9, hbr9⟩
        case measure => simp [intOf]; omega
    · have HO : Hid (out = looseM s.m) := hide (by rw [hout.out, List.take_of_length_le (by omega), ← HN.out]; rfl)
      have hrO := rd_own hown
      go_wp2_with fail
      go_ret
      refine ⟨hbw, oA, oc, by rw [← HO.out]; rfl, by rw [← HO.out]; exact hrO, fun b hb => by rw [← HO.out]; exact row_ne_low hown (Nat.lt_of_lt_of_le hb hB2.size)⟩
end Go.Proofs.Ytbgfmcmaklobaaa
