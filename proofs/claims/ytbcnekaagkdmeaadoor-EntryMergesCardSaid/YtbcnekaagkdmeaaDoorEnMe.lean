/- THE WALK of entry.Merge. No statement of the seat is proved here; no condition but the size. -/
import Derived.Test.YtbcnekaagkdmeaaDoorEnRg
namespace Go.Proofs.YtbcnekaagkdmeaaDoor
open Go.RowKit

section
variable {w w' : World} {mb B c : Nat} {A : Option Addr} {l : List El}
theorem own_map {base sz n : Nat} {e : TypeId} {v : Value} {xs : List Value} (h : w.ownsRow base e sz v n xs) {es : Array MapEntry} {clk : Nat} (hm : w.heap[mb]? = some (.map es clk)) (hg : w.grownBy w' (some mb)) : w'.ownsRow base e sz v n xs := by
  refine h.kept (row := some mb) hg ?_
  rcases h.2 with ⟨q, _⟩ | ⟨g, cap, cur, q, _, hc, _⟩
  · rw [q]; exact .inl rfl
  · refine .inr fun r => ?_
    rw [q] at r
    simp only [Value.ownBlock] at r
    injection r with r
    subst r
    rw [hc] at hm
    cases hm
theorem OwnE.map (h : OwnE w B A c l) {es : Array MapEntry} {clk : Nat} (hm : w.heap[mb]? = some (.map es clk)) (hg : w.grownBy w' (some mb)) : OwnE w' B A c l := ⟨own_map h.own hm hg, fun x hx => own_map (h.ins x hx) hm hg⟩
theorem Met.app {names : List ByteArray} (h : Met w mb names) {base sz n : Nat} {e : TypeId} {v : Value} {xs : List Value} (ho : w.ownsRow base e sz v n xs) (hg : w.grownBy w' v.ownBlock) : Met w' mb names := by
  refine h.grown hg fun q => ?_
  obtain ⟨es, clk, hm⟩ := h.isMap
  rcases ho.2 with ⟨r, _⟩ | ⟨g, cap, cur, r, _, hc, _⟩
  · rw [r] at q; cases q
  · rw [r] at q
    simp only [Value.ownBlock] at q
    injection q with q
    subst q
    rw [hc] at hm
    cases hm
end
set_option maxRecDepth 100000 in
set_option maxHeartbeats 4000000 in
theorem entMerge (w : World) (A : Option Addr) (c : Nat) (ls : List Ll) (hr : Rd w w.heap.size 1 A ls.length c (llsV ls)) (hi : ∀ x ∈ ls, EnR w w.heap.size x.A x.c x.l) (hsm : ∀ x ∈ ls, ∀ y ∈ x.l, y.p.name.size ≤ 9223372036854775807 ∧ y.p.stats.length ≤ 1000000) (L : List (List En)) (hL : L = ls.map fun x => x.l.map El.p) (hsz : L.flatten.length ≤ 1000000) :
    Calls Tryd.prog 19 #[.slice A ls.length c] w (MgEnd w (mergeE L)) := by
  have hmax : ls.length ≤ 9223372036854775807 := by have h3 := hr.le; have h4 := hr.cap; unfold maxLen at h4; omega
  have hlen : L.length = ls.length := by rw [hL, List.length_map]
  have hget : ∀ i, L.getD i [] = (ls.getD i default).l.map El.p := fun i => by
    rw [hL, List.getD_eq_getElem?_getD, List.getD_eq_getElem?_getD, List.getElem?_map]
    cases ls[i]? <;> rfl
  clear hL
  have hmm := @run_makeMap Tryd.prog
  have hM0 := met_new w
  have hb0 := (Below.refl w.heap.size w).alloc (Nat.le_refl _) (.map #[] 0)
  go_enter Tryd.func19, Tryd.ntmps19
  go_wp2_with fail
  generalize w.alloc (.map #[] 0) = w0 at *
  obtain ⟨mb, hmb⟩ : ∃ b, b = w.heap.size := ⟨_, rfl⟩
  rw [← hmb] at hM0
  rw [← hmb]
  have HMB := hide hmb
  clear hmb hmm
  go_loopw [4, 12] (fun v4 iv wr => ∃ (i : Nat) (oA : Option Addr) (oc : Nat) (out : List El), v4 = .slice oA out.length oc ∧ iv = .int .i64 (i : Int) ∧ i ≤ ls.length ∧ Hid (out.map El.p = mg (L.take i).flatten) ∧ OwnE wr w.heap.size oA oc out ∧ Met wr mb (nmsOf out) ∧ Below w.heap.size w wr) (fun _ iv _ => ls.length - (intOf iv).toNat)
  case atStart => exact ⟨0, none, 0, [], rfl, rfl, Nat.zero_le _, hide (by simp [mg]), OwnE.nil _ _, hM0, hb0⟩
  case round =>
    clear hM0 hb0
    obtain ⟨i, oA, oc, out, rfl, rfl, hil, hout, hO, hM, hbr⟩ := hrel
    by_cases hlt : i < ls.length
    · obtain ⟨lb, lo, rfl, hlb, hcl⟩ := hr.llA hlt
      have hin := hi (ls.getD i default) (getD_mem hlt)
      have hsi := hsm (ls.getD i default) (getD_mem hlt)
      have hgi := hget i
      obtain ⟨X, hX⟩ : ∃ X, ls.getD i default = X := ⟨_, rfl⟩
      have hcell := hcl X hX
      rw [hX] at hin hgi hsi
      obtain ⟨xl, xA, xc⟩ := X
      dsimp only at hin hgi hcell hsi
      have hfl : (L.take (i + 1)).flatten = (L.take i).flatten ++ xl.map El.p := by rw [← hgi]; exact flat_next' (by omega)
      have HFL := hide hfl
      have HQL : Hid (((L.take i).flatten ++ xl.map El.p).length ≤ 1000000) := hide (by rw [← hfl]; exact Nat.le_trans (flat_take_le _ _) hsz)
      obtain ⟨Q, hQ⟩ : ∃ Q, Q = (L.take i).flatten := ⟨_, rfl⟩
      rw [← hQ] at HFL HQL hout
      have hxmax : xl.length ≤ 9223372036854775807 := by have h3 := hin.row.le; have h4 := hin.row.cap; unfold maxLen at h4; omega
      have HSI := hide hsi
      have hcw := (hbr.cell (p := ⟨lb, lo + i, none⟩) hlb).trans hcell
      clear hcl hX hgi hfl hQ hsi hcell
      go_wp2_with fail
      go_loopw [4, 18] (fun v4 iv wq => ∃ (k : Nat) (oA : Option Addr) (oc : Nat) (out : List El), v4 = .slice oA out.length oc ∧ iv = .int .i64 (k : Int) ∧ k ≤ xl.length ∧ Hid (out.map El.p = mg (Q ++ (xl.map El.p).take k)) ∧ OwnE wq w.heap.size oA oc out ∧ Met wq mb (nmsOf out) ∧ Below w.heap.size w wq) (fun _ iv _ => xl.length - (intOf iv).toNat)
      case atStart => exact ⟨0, oA, oc, out, rfl, rfl, Nat.zero_le _, hide (by rw [hout.out]; simp), hO, hM, hbr⟩
      case round =>
        clear hout hO hM hbr hcw
        obtain ⟨k, oA, oc, out, rfl, rfl, hk, hout, hO, hM, hbr⟩ := hrel
        have hol : out.length ≤ 1000000 := by
          have h1 : out.length = (mg (Q ++ (xl.map El.p).take k)).length := by rw [← hout.out, List.length_map]
          have h2 := mg_len (Q ++ (xl.map El.p).take k)
          have h3 := HQL.out
          rw [List.length_append] at h2 h3
          rw [List.length_take] at h2
          omega
        by_cases hkl : k < xl.length
        · obtain ⟨xb, xo, rfl, hxb, hcs⟩ := hin.row.elA hkl
          have hxin := hin.ins (xl.getD k default) (getD_mem hkl)
          have hxs := HSI.out (xl.getD k default) (getD_mem hkl)
          have hnx : mg (Q ++ (xl.map El.p).take (k + 1)) = stepM (mg (Q ++ (xl.map El.p).take k)) (xl.getD k default).p := by
            rw [take_next (by rw [List.length_map]; exact hkl), ← List.append_assoc, mg_snoc, map_get]
          obtain ⟨x, hx⟩ : ∃ x, xl.getD k default = x := ⟨_, rfl⟩
          obtain ⟨q0, q1, q2, q3, q4, q5⟩ := hcs x hx
          rw [hx] at hxin hnx hxs
          rw [← hout.out] at hnx
          have HNX := hide hnx
          have hzz : w.heap.size ≤ wr.heap.size := hbr.size
          have x0 := (hbr.cell (p := ⟨xb, xo + k * 6, none⟩) hxb).trans q0
          have x1 := (hbr.cell (p := ⟨xb, xo + k * 6 + 1, none⟩) hxb).trans q1
          have x2 := (hbr.cell (p := ⟨xb, xo + k * 6 + 2, none⟩) hxb).trans q2
          have x3 := (hbr.cell (p := ⟨xb, xo + k * 6 + 3, none⟩) hxb).trans q3
          have x4 := (hbr.cell (p := ⟨xb, xo + k * 6 + 4, none⟩) hxb).trans q4
          have x5 := (hbr.cell (p := ⟨xb, xo + k * 6 + 5, none⟩) hxb).trans q5
          have y := boxN_new wr #[.string x.p.name, .bool x.p.keys, .int .u64 (x.p.seq.toNat : Int), .int .i64 x.p.rows.toInt, .int .u32 (x.p.sch.toNat : Int), .slice x.A x.p.stats.length x.c] 36
          have hbA := (Below.refl wr.heap.size wr).alloc (Nat.le_refl _) (.cells #[.string x.p.name, .bool x.p.keys, .int .u64 (x.p.seq.toNat : Int), .int .i64 x.p.rows.toInt, .int .u32 (x.p.sch.toNat : Int), .slice x.A x.p.stats.length x.c] 36)
          have hOA := hO.keep hbA
          have hMA := hM.keep hbA
          have hbrA := hbr.trans (hbA.mono hzz)
          have hyne : wr.heap.size ≠ mb := by have := hM.lt; omega
          have hleA := Nat.le_trans hzz hbA.size
          clear hcs hx hnx q0 q1 q2 q3 q4 q5 hout hO hM hbr
          go_upto_region 9 with fail
          generalize wr.alloc (.cells #[.string x.p.name, .bool x.p.keys, .int .u64 (x.p.seq.toNat : Int), .int .i64 x.p.rows.toInt, .int .u32 (x.p.sch.toNat : Int), .slice x.A x.p.stats.length x.c] 36) = wA at *
          generalize wr.heap.size = yb at *
          have u0 := y.cell 0 _ rfl
          have hlook := hMA.look x.p.name (by unfold maxLen; omega)
          clear x0 x1 x2 x3 x4 x5 hbA
          cases hh : hasNm (nmsOf out) x.p.name with
          | true =>
            rw [hh] at hlook
            have HOUT : Hid (out.map El.p = mg (Q ++ (xl.map El.p).take (k + 1))) := hide (by rw [HNX.out]; unfold stepM; rw [if_pos (show hasNm ((out.map El.p).map En.name) x.p.name = true from hh)])
            clear hh
            go_wp2_with fail
            go_roundw
            case rel => exact ⟨k + 1, oA, oc, out, rfl, by go_num, hkl, HOUT, hOA, hMA, hbrA⟩
            case measure => simp [intOf]; omega
          | false =>
            rw [hh] at hlook
            have HOUT : Hid ((out.map El.p) ++ [x.p] = mg (Q ++ (xl.map El.p).take (k + 1))) := hide (by rw [HNX.out]; unfold stepM; rw [if_neg (by intro r; have r : hasNm (nmsOf out) x.p.name = true := r; rw [hh] at r; cases r)])
            clear hh
            obtain ⟨w6, hput, hM6, hg6⟩ := hMA.put x.p.name (by unfold maxLen; omega) (by unfold nmsOf; rw [List.length_map, List.length_map]; unfold maxLen; omega)
            obtain ⟨mes, mcl, hmb⟩ := hMA.isMap
            have y6 := y.map hg6 hyne
            have hO6 := hOA.map hmb hg6
            have hbl6 := below_map (B := w.heap.size) hg6 (by rw [HMB.out]; exact Nat.le_refl _) hleA
            have hbr6 := hbrA.trans hbl6
            go_upto_region 11 with fail
            have u0 := y6.cell 0 _ rfl
            have u1 := y6.cell 1 _ rfl
            have u2 := y6.cell 2 _ rfl
            have u3 := y6.cell 3 _ rfl
            have u4 := y6.cell 4 _ rfl
            have u5 := y6.cell 5 _ rfl
            have hxin6 := (hxin.below hbr6).more hbr6.size
            clear hput hlook hmb hg6 hMA y y6 hOA hbrA hbl6 hleA
            go_wp2_with fail
            refine (entOwn w6 x.p x.A x.c hxin6 hxs.2).mono ?_
            rintro e w7 ⟨hb7, F, fc, rfl, hown7⟩
            have hO7 := hO6.keep hb7
            have hM7 := hM6.keep hb7
            have hbr7 := below_call hbr6 hbr6.size hb7
            have hx7 := own_base hown7 hbr6.size
            have hbL := (Below.refl w7.heap.size w7).alloc (Nat.le_refl _) (.cells (elA x.p F fc) 36)
            have hO8 := hO7.keep hbL
            have hM8 := hM7.keep hbL
            have hx8 := own_below hx7 hbL
            have hbr8 := below_call hbr7 hbr7.size hbL
            have hom := hO8.own
            have hrL : Rd (w7.alloc (.cells (elA x.p F fc) 36)) (w7.heap.size + 1) 6 (some ⟨w7.heap.size, 0, none⟩) 1 1 (elV ⟨x.p, F, fc⟩) := Rd.lit (n := 1) (sz := 6) w7 36 (elA x.p F fc) rfl (by unfold maxLen; omega)
            have hz8 : w.heap.size ≤ (w7.alloc (.cells (elA x.p F fc) 36)).heap.size := hbr8.size
            dsimp only [elA] at hrL hom hz8 hO8 hM8 hx8 hbr8 ⊢
            clear hown7 hb7 hO7 hM7 hbr7 hx7 hbL hO6 hM6 hbr6 u0 u1 u2 u3 u4 u5 hxin6
            go_wp2_with (at_builtin; refine wpList_app _ tyEls rfl (.tmp 30) (.tmp 33) rfl w.heap.size _ out.length (elsV out) rfl hom (w7.heap.size + 1) _ 1 1 (elV ⟨x.p, F, fc⟩) rfl hrL (elV_one _) (by omega) hz8 ?_; intro v9 w9 hown9 hg9 _)
            obtain ⟨g, cap, rfl, hO9⟩ := hO8.snoc (x := ⟨x.p, F, fc⟩) hx8 hown9 hg9
            have hM9 := hM8.app hom hg9
            have hbr9 := below_app hbr8 (Nat.le_refl _) hom hg9 hz8
            have HM9 : Hid (Met w9 mb (nmsOf (out ++ [(⟨x.p, F, fc⟩ : El)]))) := hide (by unfold nmsOf at hM9 ⊢; rw [List.map_append, List.map_append]; exact hM9)
            clear hown9 hg9 hO8 hM8 hx8 hom hrL hM9 hbr8
            go_wp2_with fail
            go_roundw
            case rel => exact ⟨k + 1, _, cap, out ++ [⟨x.p, F, fc⟩], rfl, by go_num, hkl, hide (by rw [← HOUT.out, List.map_append]; rfl), hO9, HM9.out, hbr9⟩
            case measure => simp [intOf]; omega
        · have HOUT : Hid (out.map El.p = mg (L.take (i + 1)).flatten) := hide (by rw [hout.out, HFL.out, List.take_of_length_le (by rw [List.length_map]; omega)])
          clear hout
          go_wp2_with fail
          go_roundw
          case rel => exact ⟨i + 1, oA, oc, out, rfl, by go_num, hlt, HOUT, hO, hM, hbr⟩
          case measure => simp [intOf]; omega
    · have HEND : Hid (out.map El.p = mergeE L) := hide (by rw [hout.out, List.take_of_length_le (by omega)]; rfl)
      clear hout
      go_wp2_with fail
      go_ret
      exact ⟨hbr, oA, oc, out, rfl, HEND.out, hO.rd⟩
end Go.Proofs.YtbcnekaagkdmeaaDoor
