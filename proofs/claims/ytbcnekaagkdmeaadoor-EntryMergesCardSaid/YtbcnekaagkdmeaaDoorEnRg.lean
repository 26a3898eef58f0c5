/- THE WALK of the law's right: right ones of entries, each name once. No statement of the seat is proved here; no condition. -/
import Derived.Test.YtbcnekaagkdmeaaDoorEnMg
namespace Go.Proofs.YtbcnekaagkdmeaaDoor
open Go.RowKit

/-! ### plain -/
def stepR (out : List En) (x : En) : List En := if out.length < 64 ∧ rightE x = true then mergeE [out, [x]] else out
def rgt (q : List En) : List En := q.foldl stepR []
theorem rgt_snoc (q : List En) (x : En) : rgt (q ++ [x]) = stepR (rgt q) x := by simp [rgt]
def GoodE (out : List En) : Prop := (∀ x ∈ out, rightE x = true) ∧ (out.map En.name).Nodup ∧ out.length ≤ 64
theorem stepR_good {out : List En} (h : GoodE out) (x : En) : GoodE (stepR out x) := by
  unfold stepR
  split
  · rename_i hc
    rw [merge_one h.2.1]
    refine ⟨fun y hy => ?_, stepM_nodup h.2.1 x, ?_⟩
    · unfold stepM at hy
      split at hy
      · exact h.1 y hy
      · rcases List.mem_append.1 hy with hy | hy
        · exact h.1 y hy
        · rw [List.mem_singleton.1 hy]; exact hc.2
    · have := stepM_len out x
      omega
  · exact h
theorem fold_good (q : List En) : ∀ acc, GoodE acc → GoodE (q.foldl stepR acc) := by
  induction q with
  | nil => exact fun acc h => h
  | cons x q ih => exact fun acc h => ih _ (stepR_good h x)
theorem rgt_good (q : List En) : GoodE (rgt q) := fold_good q [] ⟨by simp, by simp, by simp⟩
theorem fold_full (q : List En) : ∀ acc : List En, ¬ acc.length < 64 → q.foldl stepR acc = acc := by
  induction q with
  | nil => simp
  | cons x q ih =>
    intro acc h
    have e : stepR acc x = acc := by unfold stepR; rw [if_neg (fun r => h r.1)]
    rw [List.foldl_cons, e]
    exact ih acc h
theorem rgt_full {q : List En} {k : Nat} (h : ¬ (rgt (q.take k)).length < 64) : rgt q = rgt (q.take k) := by
  conv => lhs; rw [← List.take_append_drop k q]
  unfold rgt at h ⊢
  rw [List.foldl_append]
  exact fold_full _ _ h
theorem errE_good {out : List En} (h : GoodE out) : errE out = 0 := by
  refine errE_ok (by have := h.2.2; omega) (allE_good fun k hk => ⟨h.1 _ (getD_mem hk), ?_⟩)
  rw [List.nil_append]
  intro q
  obtain ⟨z, hz, hzn⟩ := List.mem_map.1 q
  obtain ⟨i, hi, rfl⟩ := List.mem_take_iff_getElem.1 hz
  rw [getD_at _ _ hk] at hzn
  have := (List.pairwise_iff_getElem.1 h.2.1) i k (by rw [List.length_map]; omega) (by rw [List.length_map]; exact hk) (by omega)
  rw [List.getElem_map, List.getElem_map] at this
  exact this hzn
/-! ### the walk -/
set_option maxRecDepth 100000 in
set_option maxHeartbeats 4000000 in
theorem lawRight13 (w : World) (A : Option Addr) (c : Nat) (l : List El) (h : EnR w w.heap.size A c l) (hn : ∀ x ∈ l, x.p.name.size ≤ 9223372036854775807) (ql : List En) (hql : ql = l.map El.p) :
    Calls Tryd.prog 14 #[.slice A l.length c] w (MgEnd w (rgt ql)) := by
  have hmax : l.length ≤ 9223372036854775807 := by have h3 := h.row.le; have h4 := h.row.cap; unfold maxLen at h4; omega
  have hlen : ql.length = l.length := by rw [hql, List.length_map]
  have hget : ∀ k, ql.getD k default = (l.getD k default).p := fun k => by rw [hql]; exact map_get l k
  clear hql
  go_enter Tryd.func14, Tryd.ntmps14
  go_wp2_with fail
  go_loopw [3, 4] (fun v3 iv wr => ∃ (k : Nat) (oA : Option Addr) (oc : Nat) (out : List El), v3 = .slice oA out.length oc ∧ iv = .int .i64 (k : Int) ∧ k ≤ l.length ∧ Hid (out.map El.p = rgt (ql.take k)) ∧ out.length ≤ 64 ∧ EnR wr wr.heap.size oA oc out ∧ Below w.heap.size w wr) (fun _ iv _ => l.length - (intOf iv).toNat)
  case atStart => exact ⟨0, none, 0, [], rfl, rfl, Nat.zero_le _, hide (by simp [rgt]), by simp, ⟨Rd.nil _ _ _, by simp⟩, Below.refl _ _⟩
  case round =>
    obtain ⟨k, oA, oc, out, rfl, rfl, hk, hout, h64, hO, hbr⟩ := hrel
    by_cases hlt : k < l.length
    · have t8 : decide ((k : Int) < (l.length : Int)) = true := decide_eq_true (by omega)
      by_cases hfull : out.length < 64
      · have t12 : decide ((out.length : Int) < 64) = true := decide_eq_true (by omega)
        obtain ⟨gb, off, rfl, hgb, hc⟩ := h.row.elA hlt
        have hin := h.ins (l.getD k default) (getD_mem hlt)
        have hxn := hn (l.getD k default) (getD_mem hlt)
        have hnx : rgt (ql.take (k + 1)) = stepR (rgt (ql.take k)) (l.getD k default).p := by rw [take_next (by omega), rgt_snoc, hget]
        obtain ⟨x, hx⟩ : ∃ x, l.getD k default = x := ⟨_, rfl⟩
        have hcx := hc x hx
        rw [hx] at hin hxn hnx
        rw [← hout.out] at hnx
        have HNX := hide hnx
        have HC := hide hcx
        have hbW := hbr.size
        obtain ⟨q0, q1, q2, q3, q4, q5⟩ := HC.out
        have x0 := (hbr.cell (p := ⟨gb, off + k * 6, none⟩) hgb).trans q0
        have x1 := (hbr.cell (p := ⟨gb, off + k * 6 + 1, none⟩) hgb).trans q1
        have x2 := (hbr.cell (p := ⟨gb, off + k * 6 + 2, none⟩) hgb).trans q2
        have x3 := (hbr.cell (p := ⟨gb, off + k * 6 + 3, none⟩) hgb).trans q3
        have x4 := (hbr.cell (p := ⟨gb, off + k * 6 + 4, none⟩) hgb).trans q4
        have x5 := (hbr.cell (p := ⟨gb, off + k * 6 + 5, none⟩) hgb).trans q5
        clear hc hx hnx hcx q0 q1 q2 q3 q4 q5
        go_wp2_with fail
        refine (refRight13 wr x.p x.A x.c ((hin.below hbr).more hbW) hxn).mono ?_
        rintro e w2 ⟨rfl, hb2⟩
        have hB2 := below_call hbr hbW hb2
        have hO2 := (hO.below hb2).more hb2.size
        clear x0 x1 x2 x3 x4 x5 hbr hO hb2 hbW
        cases hrt : rightE x.p with
        | false =>
          have HOUT : Hid (out.map El.p = rgt (ql.take (k + 1))) := hide (by rw [HNX.out]; unfold stepR; rw [if_neg (by rw [hrt]; simp)])
          clear hrt
          go_wp2_with fail
          go_roundw
          case rel => exact ⟨k + 1, oA, oc, out, rfl, by go_num, hlt, HOUT, h64, hO2, hB2⟩
          case measure => simp [intOf]; omega
        | true =>
          have HM : Hid (rgt (ql.take (k + 1)) = mergeE [out.map El.p, [x.p]]) := hide (by rw [HNX.out]; unfold stepR; rw [if_pos ⟨by rw [List.length_map]; exact hfull, hrt⟩])
          clear hrt
          obtain ⟨q0, q1, q2, q3, q4, q5⟩ := HC.out
          have x0 := (hB2.cell (p := ⟨gb, off + k * 6, none⟩) hgb).trans q0
          have x1 := (hB2.cell (p := ⟨gb, off + k * 6 + 1, none⟩) hgb).trans q1
          have x2 := (hB2.cell (p := ⟨gb, off + k * 6 + 2, none⟩) hgb).trans q2
          have x3 := (hB2.cell (p := ⟨gb, off + k * 6 + 3, none⟩) hgb).trans q3
          have x4 := (hB2.cell (p := ⟨gb, off + k * 6 + 4, none⟩) hgb).trans q4
          have x5 := (hB2.cell (p := ⟨gb, off + k * 6 + 5, none⟩) hgb).trans q5
          have hxi := (hin.below hB2).more hB2.size
          clear q0 q1 q2 q3 q4 q5
          go_wp2_with fail
          have l1 : Rd (w2.alloc (.cells #[.string x.p.name, .bool x.p.keys, .int .u64 (x.p.seq.toNat : Int), .int .i64 x.p.rows.toInt, .int .u32 (x.p.sch.toNat : Int), .slice x.A x.p.stats.length x.c] 36)) (w2.heap.size + 1) 6 (some ⟨w2.heap.size, 0, none⟩) 1 1 (elsV [x]) := by
            have := Rd.lit (n := 1) (sz := 6) w2 36 (elV x).toArray rfl (by unfold maxLen; omega)
            simpa [elsV, elV] using this
          have hb3 := (Below.refl w2.heap.size w2).alloc (Nat.le_refl _) (.cells #[.string x.p.name, .bool x.p.keys, .int .u64 (x.p.seq.toNat : Int), .int .i64 x.p.rows.toInt, .int .u32 (x.p.sch.toNat : Int), .slice x.A x.p.stats.length x.c] 36)
          have z3 : (w2.alloc (.cells #[.string x.p.name, .bool x.p.keys, .int .u64 (x.p.seq.toNat : Int), .int .i64 x.p.rows.toInt, .int .u32 (x.p.sch.toNat : Int), .slice x.A x.p.stats.length x.c] 36)).heap.size = w2.heap.size + 1 := by simp
          generalize w2.alloc (.cells #[.string x.p.name, .bool x.p.keys, .int .u64 (x.p.seq.toNat : Int), .int .i64 x.p.rows.toInt, .int .u32 (x.p.sch.toNat : Int), .slice x.A x.p.stats.length x.c] 36) = w3 at *
          have l2 : Rd (w3.alloc (.cells #[.slice oA out.length oc, .slice (some ⟨w2.heap.size, 0, none⟩) 1 1] 22)) (w3.heap.size + 1) 1 (some ⟨w3.heap.size, 0, none⟩) 2 2 (llsV [⟨out, oA, oc⟩, ⟨[x], some ⟨w2.heap.size, 0, none⟩, 1⟩]) := Rd.lit (n := 2) (sz := 1) w3 22 #[.slice oA out.length oc, .slice (some ⟨w2.heap.size, 0, none⟩) 1 1] rfl (by unfold maxLen; omega)
          have hb4 := (Below.refl w3.heap.size w3).alloc (Nat.le_refl _) (.cells #[.slice oA out.length oc, .slice (some ⟨w2.heap.size, 0, none⟩) 1 1] 22)
          have z4 : (w3.alloc (.cells #[.slice oA out.length oc, .slice (some ⟨w2.heap.size, 0, none⟩) 1 1] 22)).heap.size = w3.heap.size + 1 := by simp
          have hb34 := below_call hb3 hb3.size hb4
          have hB4 := below_call hB2 hB2.size hb34
          have O4 := (hO2.below hb34).more hb34.size
          have X4 := (hxi.below hb34).more hb34.size
          have l1' := (l1.more (by omega : w2.heap.size + 1 ≤ w3.heap.size)).below hb4 |>.more hb4.size
          rw [← z4] at l2
          rw [z3] at l2
          have hM : Calls Tryd.prog 20 #[.slice (some ⟨w2.heap.size + 1, 0, none⟩) 2 2] (w3.alloc (.cells #[.slice oA out.length oc, .slice (some ⟨w2.heap.size, 0, none⟩) 1 1] 22)) (MgEnd _ (mergeE [out.map El.p, [x.p]])) :=
            refMerge13 _ (some ⟨w2.heap.size + 1, 0, none⟩) 2 [⟨out, oA, oc⟩, ⟨[x], some ⟨w2.heap.size, 0, none⟩, 1⟩] l2 (fun y hy => by
              simp only [List.mem_cons, List.not_mem_nil, or_false] at hy
              rcases hy with rfl | rfl
              · exact O4
              · exact ⟨l1', fun z hz => by obtain rfl := List.mem_singleton.1 hz; exact X4⟩) _ rfl (by simp; omega)
          generalize w3.alloc (.cells #[.slice oA out.length oc, .slice (some ⟨w2.heap.size, 0, none⟩) 1 1] 22) = w4 at *
          clear l1 l1' l2 O4 X4 hb3 hb4 z3 z4 hb34 hxi hO2 hB2 x0 x1 x2 x3 x4 x5
          refine hM.mono ?_
          rintro e w5 ⟨hb5, pA, pc, pout, rfl, hpo, hP⟩
          have HOUT : Hid (pout.map El.p = rgt (ql.take (k + 1))) := hide (by rw [HM.out, hpo])
          have hp64 : pout.length ≤ 64 := by
            have := (rgt_good (ql.take (k + 1))).2.2
            rw [← HOUT.out, List.length_map] at this
            exact this
          have hB5 := below_call hB4 hB4.size hb5
          clear hM hpo hb5 hB4
          go_wp2_with fail
          go_roundw
          case rel => exact ⟨k + 1, pA, pc, pout, rfl, by go_num, hlt, HOUT, hp64, hP, hB5⟩
          case measure => simp [intOf]; omega
      · have t12 : decide ((out.length : Int) < 64) = false := decide_eq_false (by omega)
        have HF : Hid (out.map El.p = rgt ql) := hide (by
          rw [hout.out]
          exact (rgt_full (by rw [← hout.out, List.length_map]; exact hfull)).symm)
        clear hout
        go_wp2_with fail
        go_ret
        exact ⟨hbr, oA, oc, out, rfl, HF.out, hO⟩
    · have t8 : decide ((k : Int) < (l.length : Int)) = false := decide_eq_false (by omega)
      have HF : Hid (out.map El.p = rgt ql) := hide (by rw [hout.out, List.take_of_length_le (by omega)])
      clear hout
      go_wp2_with fail
      go_ret
      exact ⟨hbr, oA, oc, out, rfl, HF.out, hO⟩
end Go.Proofs.YtbcnekaagkdmeaaDoor
