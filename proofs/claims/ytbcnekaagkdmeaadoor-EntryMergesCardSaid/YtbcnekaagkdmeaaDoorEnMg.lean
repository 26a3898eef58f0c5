/- THE WALKS of the document's Merge; entry's own, its clones. No statement of the seat is proved here; no condition but the size. -/
import Derived.Test.YtbcnekaagkdmeaaDoorEnLO
namespace Go.Proofs.YtbcnekaagkdmeaaDoor
open Go.RowKit

/-! ### plain -/
def stepM (out : List En) (x : En) : List En := if hasNm (out.map En.name) x.name = true then out else out ++ [x]
def mg (q : List En) : List En := q.foldl stepM []
def mergeE (ls : List (List En)) : List En := mg ls.flatten
theorem mg_snoc (q : List En) (x : En) : mg (q ++ [x]) = stepM (mg q) x := by simp [mg]
theorem stepM_len (out : List En) (x : En) : (stepM out x).length ≤ out.length + 1 := by
  unfold stepM
  split
  · omega
  · simp
theorem fold_len (q : List En) : ∀ acc, (q.foldl stepM acc).length ≤ acc.length + q.length := by
  induction q with
  | nil => simp
  | cons x q ih =>
    intro acc
    have h1 := ih (stepM acc x)
    have h2 := stepM_len acc x
    rw [List.foldl_cons, List.length_cons]
    omega
theorem mg_len (q : List En) : (mg q).length ≤ q.length := by
  have := fold_len q []
  simpa [mg] using this
theorem fold_id (q : List En) : ∀ acc : List En, ((acc ++ q).map En.name).Nodup → q.foldl stepM acc = acc ++ q := by
  induction q with
  | nil => simp
  | cons x q ih =>
    intro acc h
    have hn : hasNm (acc.map En.name) x.name = false := by
      apply Bool.eq_false_iff.2
      intro r
      rw [hasNm_iff] at r
      rw [List.map_append, List.map_cons, List.nodup_append] at h
      exact h.2.2 _ r _ (by simp) rfl
    have e : stepM acc x = acc ++ [x] := by unfold stepM; rw [if_neg (by rw [hn]; simp)]
    rw [List.foldl_cons, e, ih (acc ++ [x]) (by simpa using h)]
    simp
theorem mg_id {q : List En} (h : (q.map En.name).Nodup) : mg q = q := by
  have := fold_id q [] (by simpa using h)
  simpa [mg] using this
theorem stepM_nodup {out : List En} (h : (out.map En.name).Nodup) (x : En) : ((stepM out x).map En.name).Nodup := by
  unfold stepM
  split
  · exact h
  · rename_i hn
    rw [List.map_append, List.nodup_append]
    refine ⟨h, by simp, fun a ha b hb => ?_⟩
    simp only [List.map_cons, List.map_nil, List.mem_singleton] at hb
    rw [hb]
    intro r
    rw [r] at ha
    exact hn (hasNm_iff.2 ha)
theorem fold_nodup (q : List En) : ∀ acc : List En, (acc.map En.name).Nodup → ((q.foldl stepM acc).map En.name).Nodup := by
  induction q with
  | nil => simp
  | cons x q ih => exact fun acc h => ih _ (stepM_nodup h x)
theorem mg_nodup (q : List En) : ((mg q).map En.name).Nodup := fold_nodup q [] (by simp)
theorem fold_has (q : List En) : ∀ acc : List En, (∀ x ∈ q, x.name ∈ acc.map En.name) → q.foldl stepM acc = acc := by
  induction q with
  | nil => simp
  | cons x q ih =>
    intro acc h
    have e : stepM acc x = acc := by unfold stepM; rw [if_pos (hasNm_iff.2 (h x (by simp)))]
    rw [List.foldl_cons, e]
    exact ih acc fun y hy => h y (by simp [hy])
/-- merged with itself it is as it was -/
theorem merge_twice {m : List En} (h : (m.map En.name).Nodup) : mergeE [m, m] = m := by
  have e : mergeE [m, m] = m.foldl stepM (mg m) := by simp [mergeE, mg]
  rw [e, mg_id h]
  exact fold_has m m fun x hx => List.mem_map_of_mem hx
theorem merge_one {m : List En} (h : (m.map En.name).Nodup) (x : En) : mergeE [m, [x]] = stepM m x := by
  have e : mergeE [m, [x]] = stepM (mg m) x := by simp [mergeE, mg]
  rw [e, mg_id h]
theorem take_next {l : List En} {k : Nat} (hk : k < l.length) : l.take (k + 1) = l.take k ++ [l.getD k default] := by
  rw [List.take_add_one, List.getElem?_eq_getElem hk, getD_at _ _ hk]
  rfl
theorem flat_next' {l : List (List En)} {k : Nat} (hk : k < l.length) : (l.take (k + 1)).flatten = (l.take k).flatten ++ l.getD k [] := by
  rw [List.take_add_one, List.getElem?_eq_getElem hk, List.flatten_append, getD_at _ _ hk]
  simp
theorem flat_take_le (l : List (List En)) (k : Nat) : ((l.take k).flatten).length ≤ l.flatten.length := by
  conv => rhs; rw [← List.take_append_drop k l, List.flatten_append, List.length_append]
  omega
def nmsOf (out : List El) : List ByteArray := (out.map El.p).map En.name
theorem nms_next {out : List El} {j : Nat} (hj : j < out.length) (s : ByteArray) : hasNm (nmsOf (out.take (j + 1))) s = (hasNm (nmsOf (out.take j)) s || ((out.getD j default).p.name.toList == s.toList)) := by
  rw [List.take_add_one, List.getElem?_eq_getElem hj, getD_at _ _ hj]
  unfold nmsOf
  rw [List.map_append, List.map_append]
  exact hasNm_snoc _ _ _
theorem Rd.llA {w : World} {B n c : Nat} {A : Option Addr} {l : List Ll} (h : Rd w B 1 A n c (llsV l)) {i : Nat} (hi : i < l.length) : ∃ b off, A = some ⟨b, off, none⟩ ∧ b < B ∧ ∀ X, l.getD i default = X → w.cell? ⟨b, off + i, none⟩ = some (.slice X.A X.l.length X.c) := by
  obtain ⟨b, off, rfl, hb, hc⟩ := h.el llV 1 llV_length hi (by omega)
  refine ⟨b, off, rfl, hb, fun X hX => ?_⟩
  subst hX
  have := hc 0 _ rfl
  rw [Nat.mul_one] at this
  exact this
/-- what merging ends with -/
def MgEnd (w : World) (M : List En) (e : Ending) (w' : World) : Prop :=
  Below w.heap.size w w' ∧ ∃ oA oc, ∃ out : List El, e = .returned (.slice oA out.length oc) ∧ out.map El.p = M ∧ EnR w' w'.heap.size oA oc out
/-! ### the document's -/
set_option maxRecDepth 100000 in
set_option maxHeartbeats 4000000 in
theorem refMerge13 (w : World) (A : Option Addr) (c : Nat) (ls : List Ll) (hr : Rd w w.heap.size 1 A ls.length c (llsV ls)) (hi : ∀ x ∈ ls, EnR w w.heap.size x.A x.c x.l) (L : List (List En)) (hL : L = ls.map fun x => x.l.map El.p) (hsz : L.flatten.length ≤ 1000000) :
    Calls Tryd.prog 20 #[.slice A ls.length c] w (MgEnd w (mergeE L)) := by
  have hmax : ls.length ≤ 9223372036854775807 := by have h3 := hr.le; have h4 := hr.cap; unfold maxLen at h4; omega
  have hlen : L.length = ls.length := by rw [hL, List.length_map]
  have hget : ∀ i, L.getD i [] = (ls.getD i default).l.map El.p := fun i => by
    rw [hL, List.getD_eq_getElem?_getD, List.getD_eq_getElem?_getD, List.getElem?_map]
    cases ls[i]? <;> rfl
  clear hL
  go_enter Tryd.func20, Tryd.ntmps20
  go_wp2_with fail
  go_loopw [3, 4] (fun v3 iv wr => ∃ (i : Nat) (oA : Option Addr) (oc : Nat) (out : List El), v3 = .slice oA out.length oc ∧ iv = .int .i64 (i : Int) ∧ i ≤ ls.length ∧ Hid (out.map El.p = mg (L.take i).flatten) ∧ wr.ownsRow w.heap.size 36 6 (.slice oA out.length oc) out.length (elsV out) ∧ (∀ y ∈ out, Rd wr w.heap.size 10 y.A y.p.stats.length y.c (stsV y.p.stats)) ∧ Below w.heap.size w wr) (fun _ iv _ => ls.length - (intOf iv).toNat)
  case atStart => exact ⟨0, none, 0, [], rfl, rfl, Nat.zero_le _, hide (by simp [mg]), World.ownsRow_nil _ _ _ _, by simp, Below.refl _ _⟩
  case round =>
    obtain ⟨i, oA, oc, out, rfl, rfl, hil, hout, hown, hins, hbr⟩ := hrel
    by_cases hlt : i < ls.length
    · obtain ⟨lb, lo, rfl, hlb, hcl⟩ := hr.llA hlt
      have hin := hi (ls.getD i default) (getD_mem hlt)
      have hgi := hget i
      obtain ⟨X, hX⟩ : ∃ X, ls.getD i default = X := ⟨_, rfl⟩
      have hcell := hcl X hX
      rw [hX] at hin hgi
      obtain ⟨xl, xA, xc⟩ := X
      dsimp only at hin hgi hcell
      have hfl : (L.take (i + 1)).flatten = (L.take i).flatten ++ xl.map El.p := by rw [← hgi]; exact flat_next' (by omega)
      have HFL := hide hfl
      have HQL : Hid (((L.take i).flatten ++ xl.map El.p).length ≤ 1000000) := hide (by rw [← hfl]; exact Nat.le_trans (flat_take_le _ _) hsz)
      obtain ⟨Q, hQ⟩ : ∃ Q, Q = (L.take i).flatten := ⟨_, rfl⟩
      rw [← hQ] at HFL HQL hout
      have hxmax : xl.length ≤ 9223372036854775807 := by have h3 := hin.row.le; have h4 := hin.row.cap; unfold maxLen at h4; omega
      clear hcl hX hgi hfl hQ
      have hbW := hbr.size
      go_wp2_with fail
      go_loopw [3, 5] (fun v3 iv wq => ∃ (k : Nat) (oA : Option Addr) (oc : Nat) (out : List El), v3 = .slice oA out.length oc ∧ iv = .int .i64 (k : Int) ∧ k ≤ xl.length ∧ Hid (out.map El.p = mg (Q ++ (xl.map El.p).take k)) ∧ wq.ownsRow w.heap.size 36 6 (.slice oA out.length oc) out.length (elsV out) ∧ (∀ y ∈ out, Rd wq w.heap.size 10 y.A y.p.stats.length y.c (stsV y.p.stats)) ∧ Below w.heap.size w wq) (fun _ iv _ => xl.length - (intOf iv).toNat)
      case atStart => exact ⟨0, oA, oc, out, rfl, rfl, Nat.zero_le _, hide (by rw [hout.out]; simp), hown, hins, hbr⟩
      case round =>
        clear hout hown hins hbr
        obtain ⟨k, oA, oc, out, rfl, rfl, hk, hout, hown, hins, hbr⟩ := hrel
        have hcw := (hbr.cell (p := ⟨lb, lo + i, none⟩) hlb).trans hcell
        have hol : out.length ≤ 1000000 := by
          have h1 : out.length = (mg (Q ++ (xl.map El.p).take k)).length := by rw [← hout.out, List.length_map]
          have h2 := mg_len (Q ++ (xl.map El.p).take k)
          have h3 := HQL.out
          rw [List.length_append] at h2 h3
          rw [List.length_take] at h2
          omega
        by_cases hkl : k < xl.length
        · obtain ⟨xb, xo, rfl, hxb, hcs⟩ := hin.row.elA hkl
          have hxin := hin.ins (xl.getD k default) (getD_mem hkl)
          have hnx : mg (Q ++ (xl.map El.p).take (k + 1)) = stepM (mg (Q ++ (xl.map El.p).take k)) (xl.getD k default).p := by
            rw [take_next (by rw [List.length_map]; exact hkl), ← List.append_assoc, mg_snoc, map_get]
          obtain ⟨x, hx⟩ : ∃ x, xl.getD k default = x := ⟨_, rfl⟩
          have hfs := hcs x hx
          rw [hx] at hxin hnx
          rw [← hout.out] at hnx
          have HNX := hide hnx
          have hbW2 := hbr.size
          have HFS := hide hfs
          clear hcs hx hnx hfs
          go_wp2_with fail
          go_loopw [6, 7] (fun mv jv wz => ∃ (j : Nat) (mt : Bool), mv = .bool mt ∧ jv = .int .i64 (j : Int) ∧ j ≤ out.length ∧ Hid (mt = hasNm (nmsOf (out.take j)) x.p.name) ∧ Below wr.heap.size wr wz) (fun _ jv _ => out.length - (intOf jv).toNat)
          case atStart => exact ⟨0, false, rfl, rfl, Nat.zero_le _, hide rfl, Below.refl _ _⟩
          case round =>
            clear hcw
            obtain ⟨j, mt, rfl, rfl, hj, hmt, hbz⟩ := hrel
            have hbz2 := hbr.trans (hbz.mono hbW2)
            have c1 := (hbz2.cell (p := ⟨lb, lo + i, none⟩) hlb).trans hcell
            by_cases hjl : j < out.length
            · obtain ⟨ob, oo, rfl, hob, hoc⟩ := (rd_own (own_below hown hbz)).elA hjl
              have hn := nms_next hjl x.p.name
              obtain ⟨y, hy⟩ : ∃ y, out.getD j default = y := ⟨_, rfl⟩
              obtain ⟨g0, _⟩ := hoc y hy
              rw [hy] at hn
              have HN := hide hn
              have x0 := (hbz2.cell (p := ⟨xb, xo + k * 6, none⟩) hxb).trans HFS.out.1
              clear hoc hy hn
              cases mt with
              | true =>
                go_upto_region 12 with fail
                go_quiet (fail)
                go_wp2_with fail
                go_roundw
                case rel => exact ⟨j + 1, true, rfl, by go_num, hjl, hide (by rw [HN.out, ← hmt.out]; rfl), below_dN hbz _⟩
                case measure => simp [intOf]; omega
              | false =>
                cases t44 : (y.p.name.toList == x.p.name.toList) with
                | true =>
                  go_upto_region 12 with fail
                  go_quiet (fail)
                  go_wp2_with fail
                  go_roundw
                  case rel => exact ⟨j + 1, true, rfl, by go_num, hjl, hide (by rw [HN.out, ← hmt.out, t44]; rfl), below_dN hbz _⟩
                  case measure => simp [intOf]; omega
                | false =>
                  go_upto_region 12 with fail
                  go_quiet (fail)
                  go_wp2_with fail
                  go_roundw
                  case rel => exact ⟨j + 1, false, rfl, by go_num, hjl, hide (by rw [HN.out, ← hmt.out, t44]; rfl), below_dN hbz _⟩
                  case measure => simp [intOf]; omega
            · have HM : Hid (mt = hasNm (nmsOf out) x.p.name) := hide (by have := hmt.out; rwa [List.take_of_length_le (by omega)] at this)
              clear hmt
              cases mt with
              | true =>
                go_wp2_with fail
                go_roundw
                case rel => exact ⟨k + 1, oA, oc, out, rfl, by go_num, hkl, hide (by rw [HNX.out]; unfold stepM; rw [if_pos (show hasNm ((out.map El.p).map En.name) x.p.name = true from HM.out.symm)]), own_below hown hbz, fun y hy => (hins y hy).below (hbz.mono hbW2), hbz2⟩
                case measure => simp [intOf]; omega
              | false =>
                obtain ⟨q0, q1, q2, q3, q4, q5⟩ := HFS.out
                have x0 := (hbz2.cell (p := ⟨xb, xo + k * 6, none⟩) hxb).trans q0
                have x1 := (hbz2.cell (p := ⟨xb, xo + k * 6 + 1, none⟩) hxb).trans q1
                have x2 := (hbz2.cell (p := ⟨xb, xo + k * 6 + 2, none⟩) hxb).trans q2
                have x3 := (hbz2.cell (p := ⟨xb, xo + k * 6 + 3, none⟩) hxb).trans q3
                have x4 := (hbz2.cell (p := ⟨xb, xo + k * 6 + 4, none⟩) hxb).trans q4
                have x5 := (hbz2.cell (p := ⟨xb, xo + k * 6 + 5, none⟩) hxb).trans q5
                have hbL := (Below.refl wr.heap.size wr).alloc (Nat.le_refl _) (.cells (elV x).toArray 36)
                have hom := own_below (own_below hown hbz) hbL
                have hrL : Rd (wr.alloc (.cells (elV x).toArray 36)) (wr.heap.size + 1) 6 (some ⟨wr.heap.size, 0, none⟩) 1 1 (elV x) := Rd.lit (n := 1) (sz := 6) wr 36 (elV x).toArray rfl (by unfold maxLen; omega)
                have hzz : w.heap.size ≤ wr.heap.size := Nat.le_trans hbW2 hbz.size
                have hz6 : w.heap.size ≤ (wr.alloc (.cells (elV x).toArray 36)).heap.size := Nat.le_trans hzz hbL.size
                have hins2 := fun y hy => (hins y hy).below (hbz.mono hbW2)
                have HB := hide ((Below.refl w.heap.size wr).alloc hzz (.cells (elV x).toArray 36))
                simp only [elV] at hrL hom hz6
                clear q0 q1 q2 q3 q4 q5 hbL hown hins hbz
                go_wp2_with (at_builtin; refine wpList_app _ tyEls rfl (.tmp 48) (.tmp 56) rfl w.heap.size _ out.length (elsV out) rfl hom (wr.heap.size + 1) _ 1 1 _ rfl hrL (elV_one x) (by omega) hz6 ?_; intro v8 w8 hown8 hg8 _)
                have hb8 := below_app HB.out (Nat.le_refl _) hom hg8 hz6
                have e1 : (out ++ [x]).length = out.length + 1 := by simp
                have e2 : elsV (out ++ [x]) = elsV out ++ elV x := by simp [elsV]
                obtain ⟨g, cap, rfl, _, _⟩ := hown8.form (by omega)
                have hown9 : w8.ownsRow w.heap.size 36 6 (.slice (some ⟨g, 0, none⟩) (out ++ [x]).length cap) (out ++ [x]).length (elsV (out ++ [x])) := by rw [e1, e2]; exact hown8
                have hins3 : ∀ y ∈ out ++ [x], Rd w8 w.heap.size 10 y.A y.p.stats.length y.c (stsV y.p.stats) := fun y hy => by
                  rcases List.mem_append.1 hy with hy | hy
                  · exact (hins2 y hy).below hb8
                  · rw [List.mem_singleton.1 hy]
                    exact hxin.below (hbz2.trans hb8)
                have hbz9 := hbz2.trans hb8
                rw [← e1]
                clear hown8 hg8 hom hrL x0 x1 x2 x3 x4 x5 c1 hins2
                go_wp2_with fail
                go_roundw
                case rel => exact ⟨k + 1, some ⟨g, 0, none⟩, cap, out ++ [x], rfl, by go_num, hkl, hide (by rw [HNX.out]; unfold stepM; rw [if_neg (by have := HM.out; unfold nmsOf at this; rw [← this]; decide), List.map_append]; rfl), hown9, hins3, hbz9⟩
                case measure => simp [intOf]; omega
        · have HOUT : Hid (out.map El.p = mg (L.take (i + 1)).flatten) := hide (by rw [hout.out, HFL.out, List.take_of_length_le (by rw [List.length_map]; omega)])
          clear hout
          go_wp2_with fail
          go_roundw
          case rel => exact ⟨i + 1, oA, oc, out, rfl, by go_num, hlt, HOUT, hown, hins, hbr⟩
          case measure => simp [intOf]; omega
    · have HEND : Hid (out.map El.p = mergeE L) := hide (by rw [hout.out, List.take_of_length_le (by omega)]; rfl)
      go_wp2_with fail
      go_ret
      exact ⟨hbr, oA, oc, out, rfl, HEND.out, rd_own hown, fun y hy => (hins y hy).more hbr.size⟩
set_option maxRecDepth 100000 in
theorem cloneStats (w : World) (B n c : Nat) (A : Option Addr) (xs : List Value) (hr : Rd w B 10 A n c xs) (h1 : ∀ u ∈ xs, u.oneCell' = true) (hb : n * 88 ≤ 140737488355328) (hB : B ≤ w.heap.size) :
    Calls Tryd.prog 50 #[.slice A n c] w (RetRow w 53 10 n xs) := by
  have heq := fun W => Lib.run_eql_slice_nil (P := Tryd.prog) W 34 53 A n c 0 0 Tryd.underlying34
  cases A with
  | none =>
    obtain ⟨rfl, rfl⟩ := hr.none_
    go_enter Tryd.func50, Tryd.ntmps50
    go_wp2_with fail
    go_ret
    exact ⟨_, rfl, World.ownsRow_nil _ _ _ _, Below.refl _ _⟩
  | some ad =>
    have hlit := own_lit w (base := w.heap.size) 53 10 0 #[] (Nat.le_refl _) (by decide) rfl
    have hr' := hr.alloc hB (.cells #[] 53)
    go_enter Tryd.func50, Tryd.ntmps50
    go_wp2_with (at_builtin; refine wpList_app _ tySts rfl _ _ rfl w.heap.size _ 0 [] rfl hlit B (some ad) _ c _ rfl hr' h1 (by omega) (by simp) ?_; intro v2 w2 hown2 hg2 _; simp only [Nat.zero_add, List.nil_append] at hown2; have hb2 := below_app ((Below.refl w.heap.size w).alloc (Nat.le_refl _) (.cells #[] 53)) (Nat.le_refl _) hlit hg2 (by simp))
    go_ret
    exact ⟨v2, rfl, hown2, hb2⟩

set_option maxRecDepth 100000 in
set_option maxHeartbeats 2000000 in
theorem entOwn (w : World) (x : En) (SA : Option Addr) (sc : Nat) (hr : Rd w w.heap.size 10 SA x.stats.length sc (stsV x.stats)) (hl : x.stats.length ≤ 1000000) :
    Calls Tryd.prog 37 #[.agg (elA x SA sc)] w fun e w' => Below w.heap.size w w' ∧ ∃ F fc, e = .returned (.agg (elA x F fc)) ∧ w'.ownsRow w.heap.size 53 10 (.slice F x.stats.length fc) x.stats.length (stsV x.stats) := by
  have y1 := boxN_new w (elA x SA sc) 36
  have hb1 := (Below.refl w.heap.size w).alloc (Nat.le_refl _) (.cells (elA x SA sc) 36)
  have z1 : (w.alloc (.cells (elA x SA sc) 36)).heap.size = w.heap.size + 1 := by simp
  simp only [elA] at y1 hb1 z1 ⊢
  go_enter Tryd.func37, Tryd.ntmps37
  go_upto_region 1 with fail
  generalize w.alloc (.cells #[.string x.name, .bool x.keys, .int .u64 (x.seq.toNat : Int), .int .i64 x.rows.toInt, .int .u32 (x.sch.toNat : Int), .slice SA x.stats.length sc] 36) = wa at *
  have y2 := boxN_new wa #[.string ⟨#[]⟩, .bool false, .int .u64 0, .int .i64 0, .int .u32 0, .slice none 0 0] 36
  have hb2 := (Below.refl wa.heap.size wa).alloc (Nat.le_refl _) (.cells #[.string ⟨#[]⟩, .bool false, .int .u64 0, .int .i64 0, .int .u32 0, .slice none 0 0] 36)
  have y3 := y1.keep hb2 y1.z
  have hbb := below_call hb1 hb1.size hb2
  rw [z1] at y2
  generalize wa.alloc (.cells #[.string ⟨#[]⟩, .bool false, .int .u64 0, .int .i64 0, .int .u32 0, .slice none 0 0] 36) = wb at *
  have hr2 := (hr.below hbb).more hbb.size
  have k5 := y3.cell 5 _ rfl
  obtain ⟨b1, hb1e⟩ : ∃ b, b = w.heap.size := ⟨_, rfl⟩
  obtain ⟨b2, hb2e⟩ : ∃ b, b = w.heap.size + 1 := ⟨_, rfl⟩
  rw [← hb2e] at y2
  rw [← hb1e] at y3 k5
  rw [← hb2e, ← hb1e]
  have n1 : b1 ≠ b2 := by omega
  have n2 : b2 ≠ b1 := by omega
  have l1 : b1 < wb.heap.size := y3.z
  have l2 : b2 < wb.heap.size := y2.z
  have HE := hide (And.intro hb1e hb2e)
  clear y1 hb1 hb2 z1 hr hb1e hb2e
  clear wa
  go_wp2_with fail
  refine (cloneStats wb wb.heap.size _ sc SA _ hr2 (stsV_one _) (by omega) (Nat.le_refl _)).mono ?_
  rintro e w3 ⟨v3, rfl, hown3, hb3⟩
  obtain ⟨F, fc, rfl⟩ := own_slice hown3
  have u1 := y3.keep hb3 l1
  have u2 := y2.keep hb3 l2
  have hB3 := below_call hbb hbb.size hb3
  clear y3 y2 k5 hr2 hbb hb3
  have p0 := u1.cell 0 _ rfl
  have z0 := u2.cell 0 _ rfl
  have fz0 := u2.free 0 (by simp)
  have p1 := u1.cell 1 _ rfl
  have z1 := u2.cell 1 _ rfl
  have fz1 := u2.free 1 (by simp)
  have p2 := u1.cell 2 _ rfl
  have z2 := u2.cell 2 _ rfl
  have fz2 := u2.free 2 (by simp)
  have p3 := u1.cell 3 _ rfl
  have z3 := u2.cell 3 _ rfl
  have fz3 := u2.free 3 (by simp)
  have p4 := u1.cell 4 _ rfl
  have z4 := u2.cell 4 _ rfl
  have fz4 := u2.free 4 (by simp)
  have p5 := u1.cell 5 _ rfl
  have z5 := u2.cell 5 _ rfl
  have fz5 := u2.free 5 (by simp)
  have fp5 := u1.free 5 (by simp)
  have U1 := hide u1
  have U2 := hide u2
  clear u1 u2
  go_wp2_with fail
  (try simp only [Exit.inBlock, Exit.then])
  have r1 := U2.out.else (p := ⟨b1, 5, none⟩) n1 (.slice F x.stats.length fc)
  have r9 := ((((((r1).set (j := 0) (.string x.name) rfl).set (j := 1) (.bool x.keys) rfl).set (j := 2) (.int .u64 (x.seq.toNat : Int)) rfl).set (j := 3) (.int .i64 x.rows.toInt) rfl).set (j := 4) (.int .u32 (x.sch.toNat : Int)) rfl).set (j := 5) (.slice F x.stats.length fc) rfl
  refine bodyPost_ret (ret_en (b := b2) rfl _ _ rfl r9) rfl ?_
  refine ⟨((((((hB3.setCell (p := ⟨b1, 5, none⟩) (by show w.heap.size ≤ b1; have := HE.out.1; omega) _).setCell (p := ⟨b2, 0, none⟩) (by show w.heap.size ≤ b2; have := HE.out.2; omega) _).setCell (p := ⟨b2, 1, none⟩) (by show w.heap.size ≤ b2; have := HE.out.2; omega) _).setCell (p := ⟨b2, 2, none⟩) (by show w.heap.size ≤ b2; have := HE.out.2; omega) _).setCell (p := ⟨b2, 3, none⟩) (by show w.heap.size ≤ b2; have := HE.out.2; omega) _).setCell (p := ⟨b2, 4, none⟩) (by show w.heap.size ≤ b2; have := HE.out.2; omega) _).setCell (p := ⟨b2, 5, none⟩) (by show w.heap.size ≤ b2; have := HE.out.2; omega) _, F, fc, rfl, own_base (ownsRow_setCell_below (ownsRow_setCell_below (ownsRow_setCell_below (ownsRow_setCell_below (ownsRow_setCell_below (ownsRow_setCell_below (ownsRow_setCell_below hown3 (a := ⟨b1, 5, none⟩) l1 _) (a := ⟨b2, 0, none⟩) l2 _) (a := ⟨b2, 1, none⟩) l2 _) (a := ⟨b2, 2, none⟩) l2 _) (a := ⟨b2, 3, none⟩) l2 _) (a := ⟨b2, 4, none⟩) l2 _) (a := ⟨b2, 5, none⟩) l2 _) (by have := HE.out; omega)⟩
end Go.Proofs.YtbcnekaagkdmeaaDoor
