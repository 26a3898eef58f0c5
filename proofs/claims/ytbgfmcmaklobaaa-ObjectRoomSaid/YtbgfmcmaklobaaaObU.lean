/- THE WALK of the reference's Crash: for safety alone. No statement of the seat is proved here; no condition but sizes. -/
import Derived.Test.YtbgfmcmaklobaaaObT
namespace Go.Proofs.Ytbgfmcmaklobaaa
open Go.RowKit

theorem RdP.cutTo {P : Nat → Prop} {w : World} {A : Option Addr} {c : Nat} {l : List UInt8} (h : RdP w P A l.length c l) (k : Nat) : RdP w P A (l.take k).length c (l.take k) := by
  have hle : (l.take k).length ≤ l.length := by rw [List.length_take]; omega
  have hr := h.rd.pre hle
  have e : (bytesV l).take ((l.take k).length * 1) = bytesV (l.take k) := by
    unfold bytesV
    rw [Nat.mul_one, ← List.map_take]
    congr 1
    rw [List.length_take]
    rcases Nat.le_total k l.length with q | q
    · rw [Nat.min_eq_left q]
    · rw [Nat.min_eq_right q, List.take_length, List.take_of_length_le q]
  rw [e] at hr
  exact ⟨hr, fun hn => h.at_ (by omega)⟩
set_option maxRecDepth 100000 in
set_option maxHeartbeats 4000000 in
theorem refCrash (w : World) (sb mb rb lb : Nat) (s : Rf) (h : RfR w sb mb rb lb s) (hl : s.L.length ≤ 900) (hs : sb < w.heap.size ∧ mb < w.heap.size) (kA : Option Addr) (kc : Nat) (keep : List Int) (hkeep : ∀ wx, Below w.heap.size w wx → Rd wx w.heap.size 1 kA keep.length kc (keep.map (.int .i64))) :
    Calls Try.prog 32 #[.pointer (some ⟨rb, 0, none⟩), .slice kA keep.length kc] w fun e w' => e = .returned (.tuple #[]) ∧ RfEnd w sb mb rb lb s.L.length w' := by
  have hkl : keep.length ≤ 9223372036854775807 := by have hk := hkeep w (Below.refl _ _); have h1 := hk.le; have h2 := hk.cap; unfold maxLen at h2; omega
  have HH := hide h
  have HK := hide hkeep
  have hzz : rb < w.heap.size := h.bx.z
  clear hkeep
  go_enter Try.func32, Try.ntmps32
  go_wp2_with fail
  obtain ⟨B, hB⟩ : ∃ B, B = w.heap.size := ⟨_, rfl⟩
  go_loopw [4, 5, 6] (fun v4 nv iv wr => ∃ (k n : Nat) (oA : Option Addr) (oc : Nat) (out : List Tg), v4 = .slice oA out.length oc ∧ nv = .int .i64 (n : Int) ∧ iv = .int .i64 (k : Int) ∧ k ≤ s.L.length ∧ n ≤ k ∧ out.length ≤ k ∧ wr.ownsRow B 73 3 (.slice oA out.length oc) out.length (thsV out) ∧ (∀ x ∈ out, RdP wr (fun k => Ofl sb mb rb lb k ∧ k < B) x.A x.bs.length x.c x.bs ∧ x.bs.length ≤ 70000) ∧ Below B w wr) (fun _ _ iv _ => s.L.length - (intOf iv).toNat)
  case atStart => exact ⟨0, 0, none, 0, [], rfl, rfl, rfl, Nat.zero_le _, Nat.le_refl _, Nat.le_refl _, World.ownsRow_nil _ _ _ _, by simp, Below.refl _ _⟩
  case round =>
    obtain ⟨k, n, oA, oc, out, rfl, rfl, rfl, hk, hnk, hol, hown, hins, hbr⟩ := hrel
    have hR := HH.out.keep (by rw [← hB]; exact hbr)
    by_cases hlt : k < s.L.length
    · have c1 := hR.bx.cell 1 _ rfl
      obtain ⟨b, off, hA, hx⟩ := hR.el hlt
      obtain ⟨x0, x1, x2⟩ := hx _ rfl
      have hxi := getD_ins HH.out.ins hlt
      rw [hA] at c1
      generalize s.L.getD k default = x at *
      have hxr : RdP wr (fun k => Ofl sb mb rb lb k ∧ k < B) x.A x.bs.length x.c x.bs := (hxi.1.imp (fun k h1 h2 => ⟨h1, by rw [hB]; exact h2⟩)).low (by rw [← hB]; exact hbr)
      have hxl := hxi.2
      clear hx hR hxi hA
      obtain ⟨nm, bs, lo, xA, xc⟩ := x
      dsimp only at x0 x1 x2 hxr hxl
      have hyb := (Below.refl wr.heap.size wr).alloc (Nat.le_refl _) (.cells #[.string nm, .slice xA bs.length xc, .bool lo] 73)
      have hba : Below B w (wr.alloc (.cells #[.string nm, .slice xA bs.length xc, .bool lo] 73)) := below_call hbr (by rw [hB]; exact hbr.size) hyb
      have y := boxN_new wr #[.string nm, .slice xA bs.length xc, .bool lo] 73
      have hown1 := own_below hown hyb
      have hins1 : ∀ x ∈ out, RdP (wr.alloc (.cells #[.string nm, .slice xA bs.length xc, .bool lo] 73)) (fun k => Ofl sb mb rb lb k ∧ k < B) x.A x.bs.length x.c x.bs ∧ x.bs.length ≤ 70000 := fun x hx => ⟨(hins x hx).1.low hyb, (hins x hx).2⟩
      have hxr1 := hxr.low hyb
      have hyB : B ≤ wr.heap.size := by rw [hB]; exact hbr.size
      have y2 := y.cell 2 _ rfl
      have hgy : ∀ g, (Value.slice oA out.length oc).ownBlock = some g → g ≠ wr.heap.size := fun g hg => by have := (hown.lt g hg).2; omega
      cases lo with
      | false =>
        go_upto_region 14 with fail
        clear hown hins hbr hxr hyb h c1 x0 x1 x2
        generalize wr.alloc (.cells #[.string nm, .slice xA bs.length xc, .bool false] 73) = wa at *
        generalize wr.heap.size = yb at *
        obtain ⟨xx, hxx⟩ : ∃ xx : Tg, xx = ⟨nm, bs, false, xA, xc⟩ := ⟨_, rfl⟩
        have tr1 : RdP wa (fun k => Ofl sb mb rb lb k ∧ k < B) xx.A xx.bs.length xx.c xx.bs ∧ xx.bs.length ≤ 70000 := by rw [hxx]; exact ⟨hxr1, hxl⟩
        have y' : BoxN wa yb [.string xx.nm, .slice xx.A xx.bs.length xx.c, .bool xx.lo] := by rw [hxx]; exact y
        clear y2
        have y0 := y'.cell 0 _ rfl
        have y1 := y'.cell 1 _ rfl
        have y2 := y'.cell 2 _ rfl
        clear hxx y y' hxr1
        have hR9 := HH.out.keep (w' := wa) (by rw [← hB]; exact hba)
        have hBwa : B ≤ wa.heap.size := by rw [hB]; exact hba.size
        clear hR9
        have hBW1 : B ≤ wa.heap.size := hBwa
        have hbL := (Below.refl wa.heap.size wa).alloc (Nat.le_refl _) (.cells (thV xx).toArray 73)
        have hom := own_below hown1 hbL
        have hrL : Rd (wa.alloc (.cells (thV xx).toArray 73)) (wa.heap.size + 1) 3 (some ⟨wa.heap.size, 0, none⟩) 1 1 (thV xx) := Rd.lit (n := 1) (sz := 3) wa 73 (thV xx).toArray rfl (by unfold maxLen; omega)
        have hz6 : B ≤ (wa.alloc (.cells (thV xx).toArray 73)).heap.size := Nat.le_trans hBW1 hbL.size
        have hz7 : wa.heap.size ≤ (wa.alloc (.cells (thV xx).toArray 73)).heap.size := hbL.size
        have HB1 := hide ((Below.refl B wa).alloc hBW1 (.cells (thV xx).toArray 73))
        have HI1 := hide (And.intro tr1 (And.intro hins1 hba))
        simp only [thV] at hrL hom hz6 hz7
        have HZ1 := hide hz7
        clear hz7 hbL hown1 hins1 hba tr1 
        go_wp2_with (at_builtin; refine wpList_app _ tyThs rfl (.tmp 49) (.tmp 51) rfl B _ out.length (thsV out) rfl hom (wa.heap.size + 1) _ 1 1 _ rfl hrL (thV_one xx) (by omega) hz6 ?_; intro a1 v1 hown1 hg1 _)
        have hbb1 := below_app HB1.out (Nat.le_refl _) hom hg1 hz6
        have hbz1 := HI1.out.2.2.trans hbb1
        have e1 : (out ++ [xx]).length = out.length + 1 := by simp
        have e2 : thsV (out ++ [xx]) = thsV out ++ thV xx := by simp [thsV]
        obtain ⟨g1, cap1, rfl, _, _⟩ := hown1.form (by omega)
        have hgs := hg1.size
        have hkp : ∀ y : Tg, RdP wa (fun k => Ofl sb mb rb lb k ∧ k < B) y.A y.bs.length y.c y.bs → RdP v1 (fun k => Ofl sb mb rb lb k ∧ k < B) y.A y.bs.length y.c y.bs := fun y hy => hy.keep (Nat.le_trans HZ1.out hgs) fun p hp _ => hbb1.cell hp.2
        obtain ⟨out1, hout1⟩ : ∃ o, o = out ++ [xx] := ⟨_, rfl⟩
        have hown1' : v1.ownsRow B 73 3 (.slice (some ⟨g1, 0, none⟩) out1.length cap1) out1.length (thsV out1) := by rw [hout1, e1, e2]; exact hown1
        have hins1 : ∀ y ∈ out1, RdP v1 (fun k => Ofl sb mb rb lb k ∧ k < B) y.A y.bs.length y.c y.bs ∧ y.bs.length ≤ 70000 := fun y hy => by
          rw [hout1] at hy
          rcases List.mem_append.1 hy with hy | hy
          · exact ⟨hkp y (HI1.out.2.1 y hy).1, (HI1.out.2.1 y hy).2⟩
          · rw [List.mem_singleton.1 hy]
            exact ⟨hkp xx HI1.out.1.1, HI1.out.1.2⟩
        have hlen1 : out1.length = out.length + 1 := by rw [hout1, e1]
        rw [← hlen1]
        clear hout1 e1 e2 hown1 hg1 hom hrL hkp hgs hbb1
        clear y0 y1 y2
        go_wp2_with fail
        go_roundw
        case rel => exact ⟨k + 1, n, some ⟨g1, 0, none⟩, cap1, out1, rfl, by go_num, by go_num, hlt, by omega, by rw [hlen1]; omega, hown1', hins1, hbz1⟩
        case measure => simp [intOf]; omega
      | true =>
        go_upto_region 6 with fail
        clear hown hins hbr hxr hyb h c1 x0 x1 x2
        generalize wr.alloc (.cells #[.string nm, .slice xA bs.length xc, .bool true] 73) = wa at *
        generalize wr.heap.size = yb at *
        by_cases hn : n < keep.length
        · obtain ⟨kb, koff, rfl, hkb, hkc⟩ := (HK.out wa (by rw [← hB]; exact hba)).at_ (by omega)
          obtain ⟨kk, hkk⟩ : ∃ kk, keep[n]? = some kk := ⟨_, List.getElem?_eq_getElem hn⟩
          have hkcell := hkc n (.int .i64 kk) (by rw [List.getElem?_map, hkk]; rfl)
          clear hkc hkk hkb
          by_cases hneg : kk < 0
          · have tneg : decide (kk < 0) = true := decide_eq_true hneg
            clear hneg
            go_wp2_with fail
            go_roundw
            case rel => exact ⟨k + 1, n + 1, oA, oc, out, rfl, by go_num, by go_num, hlt, by omega, by omega, hown1, hins1, hba⟩
            case measure => simp [intOf]; omega
          · have tneg : decide (kk < 0) = false := decide_eq_false hneg
            obtain ⟨bt, hbt⟩ : ∃ bt, bt = bs.take kk.toNat := ⟨_, rfl⟩
            have hmin : min kk (bs.length : Int) = (bt.length : Int) := by rw [hbt, List.length_take]; omega
            have hmle : bt.length ≤ bs.length := by rw [hbt, List.length_take]; omega
            have hxt : RdP wa (fun k => Ofl sb mb rb lb k ∧ k < B) xA bt.length xc bt := by rw [hbt]; exact hxr1.cutTo _
            clear hbt
            have hcl := hxr1.rd.le
            have hcut := run_cut_hi tyBytes xA bs.length xc .i64 (bt.length : Int) bt.length rfl (by omega)
            have hcut2 := cut_hi tyBytes xA bs.length xc .i64 (bt.length : Int) bt.length rfl (by omega)
            have y1 := y.cell 1 _ rfl
            have f1 := y.free 1 (by simp)
            have f2 := y.free 2 (by simp)
            have hy2 := (y.set (j := 1) (.slice xA bt.length xc) rfl).set (j := 2) (.bool false) rfl
            have o2 := ((Oth.refl yb wa).set 1 (.slice xA bt.length xc)).set 2 (.bool false)
            have hb2 : Below B w ((wa.setCell ⟨yb, 1, none⟩ (.slice xA bt.length xc)).setCell ⟨yb, 2, none⟩ (.bool false)) := (hba.setCell hyB _).setCell hyB _
            have hown2 : World.ownsRow ((wa.setCell ⟨yb, 1, none⟩ (.slice xA bt.length xc)).setCell ⟨yb, 2, none⟩ (.bool false)) B 73 3 (.slice oA out.length oc) out.length (thsV out) := own_keep hown1 (fun g hg hgl => o2.block g hgl (hgy g hg))
            have hkq : ∀ (A : Option Addr) (c : Nat) (l : List UInt8), RdP wa (fun k => Ofl sb mb rb lb k ∧ k < B) A l.length c l → RdP ((wa.setCell ⟨yb, 1, none⟩ (.slice xA bt.length xc)).setCell ⟨yb, 2, none⟩ (.bool false)) (fun k => Ofl sb mb rb lb k ∧ k < B) A l.length c l := fun A c l h => h.keep o2.size (fun p hp hl => o2.cell hl (by have := hp.2; omega))
            have hins2 : ∀ x ∈ out, RdP ((wa.setCell ⟨yb, 1, none⟩ (.slice xA bt.length xc)).setCell ⟨yb, 2, none⟩ (.bool false)) (fun k => Ofl sb mb rb lb k ∧ k < B) x.A x.bs.length x.c x.bs ∧ x.bs.length ≤ 70000 := fun x hx => ⟨hkq _ _ _ (hins1 x hx).1, (hins1 x hx).2⟩
            have hxt2 := hkq _ _ _ hxt
            have hsz2 : wa.heap.size ≤ ((wa.setCell ⟨yb, 1, none⟩ (.slice xA bt.length xc)).setCell ⟨yb, 2, none⟩ (.bool false)).heap.size := o2.size
            have hBwa : B ≤ wa.heap.size := by rw [hB]; exact hba.size
            clear hkq hown1 hins1 hba o2 hxr1 hxt hgy
            go_upto_region 14 with fail
            obtain ⟨xx, hxx⟩ : ∃ xx : Tg, xx = ⟨nm, bt, false, xA, xc⟩ := ⟨_, rfl⟩
            generalize (wa.setCell ⟨yb, 1, none⟩ (.slice xA bt.length xc)).setCell ⟨yb, 2, none⟩ (.bool false) = wb at *
            have tr3 : RdP wb (fun k => Ofl sb mb rb lb k ∧ k < B) xx.A xx.bs.length xx.c xx.bs ∧ xx.bs.length ≤ 70000 := by rw [hxx]; exact ⟨hxt2, by show bt.length ≤ 70000; omega⟩
            have y' : BoxN wb yb [.string xx.nm, .slice xx.A xx.bs.length xx.c, .bool xx.lo] := by rw [hxx]; exact hy2
            clear y1 y2 f1 f2
            have y0 := y'.cell 0 _ rfl
            have y1 := y'.cell 1 _ rfl
            have y2 := y'.cell 2 _ rfl
            have hBwb : B ≤ wb.heap.size := Nat.le_trans hBwa hsz2
            clear hxx y y' hxt2 hy2 hmin hcl hcut hcut2
            have hBW3 : B ≤ wb.heap.size := hBwb
            have hbL := (Below.refl wb.heap.size wb).alloc (Nat.le_refl _) (.cells (thV xx).toArray 73)
            have hom := own_below hown2 hbL
            have hrL : Rd (wb.alloc (.cells (thV xx).toArray 73)) (wb.heap.size + 1) 3 (some ⟨wb.heap.size, 0, none⟩) 1 1 (thV xx) := Rd.lit (n := 1) (sz := 3) wb 73 (thV xx).toArray rfl (by unfold maxLen; omega)
            have hz6 : B ≤ (wb.alloc (.cells (thV xx).toArray 73)).heap.size := Nat.le_trans hBW3 hbL.size
            have hz7 : wb.heap.size ≤ (wb.alloc (.cells (thV xx).toArray 73)).heap.size := hbL.size
            have HB3 := hide ((Below.refl B wb).alloc hBW3 (.cells (thV xx).toArray 73))
            have HI3 := hide (And.intro tr3 (And.intro hins2 hb2))
            simp only [thV] at hrL hom hz6 hz7
            have HZ3 := hide hz7
            clear hz7 hbL hown2 hins2 hb2 tr3 
            go_wp2_with (at_builtin; refine wpList_app _ tyThs rfl (.tmp 49) (.tmp 51) rfl B _ out.length (thsV out) rfl hom (wb.heap.size + 1) _ 1 1 _ rfl hrL (thV_one xx) (by omega) hz6 ?_; intro a3 v3 hown3 hg3 _)
            have hbb3 := below_app HB3.out (Nat.le_refl _) hom hg3 hz6
            have hbz3 := HI3.out.2.2.trans hbb3
            have e1 : (out ++ [xx]).length = out.length + 1 := by simp
            have e2 : thsV (out ++ [xx]) = thsV out ++ thV xx := by simp [thsV]
            obtain ⟨g3, cap3, rfl, _, _⟩ := hown3.form (by omega)
            have hgs := hg3.size
            have hkp : ∀ y : Tg, RdP wb (fun k => Ofl sb mb rb lb k ∧ k < B) y.A y.bs.length y.c y.bs → RdP v3 (fun k => Ofl sb mb rb lb k ∧ k < B) y.A y.bs.length y.c y.bs := fun y hy => hy.keep (Nat.le_trans HZ3.out hgs) fun p hp _ => hbb3.cell hp.2
            obtain ⟨out3, hout3⟩ : ∃ o, o = out ++ [xx] := ⟨_, rfl⟩
            have hown3' : v3.ownsRow B 73 3 (.slice (some ⟨g3, 0, none⟩) out3.length cap3) out3.length (thsV out3) := by rw [hout3, e1, e2]; exact hown3
            have hins3 : ∀ y ∈ out3, RdP v3 (fun k => Ofl sb mb rb lb k ∧ k < B) y.A y.bs.length y.c y.bs ∧ y.bs.length ≤ 70000 := fun y hy => by
              rw [hout3] at hy
              rcases List.mem_append.1 hy with hy | hy
              · exact ⟨hkp y (HI3.out.2.1 y hy).1, (HI3.out.2.1 y hy).2⟩
              · rw [List.mem_singleton.1 hy]
                exact ⟨hkp xx HI3.out.1.1, HI3.out.1.2⟩
            have hlen3 : out3.length = out.length + 1 := by rw [hout3, e1]
            rw [← hlen3]
            clear hout3 e1 e2 hown3 hg3 hom hrL hkp hgs hbb3
            clear y0 y1 y2
            go_wp2_with fail
            go_roundw
            case rel => exact ⟨k + 1, n + 1, some ⟨g3, 0, none⟩, cap3, out3, rfl, by go_num, by go_num, hlt, by omega, by rw [hlen3]; omega, hown3', hins3, hbz3⟩
            case measure => simp [intOf]; omega
        · have tn : decide (n < keep.length) = false := decide_eq_false hn
          clear hn
          go_wp2_with fail
          go_roundw
          case rel => exact ⟨k + 1, n + 1, oA, oc, out, rfl, by go_num, by go_num, hlt, by omega, by omega, hown1, hins1, hba⟩
          case measure => simp [intOf]; omega
    · have cc1 := hR.bx.cell 1 _ rfl
      have cc5 := hR.bx.cell 5 _ rfl
      have cc3 := hR.bx.cell 3 _ rfl
      have cc4 := hR.bx.cell 4 _ rfl
      have f1 := hR.bx.free 1 (by simp)
      have f3 := hR.bx.free 3 (by simp)
      have f4 := hR.bx.free 4 (by simp)
      have f5 := hR.bx.free 5 (by simp)
      have HX := hide (And.intro hR (And.intro hown (And.intro hins hbr)))
      clear hR hown hins h hbr
      go_wp2_with fail
      go_end0
      obtain ⟨hR, hown, hins, hbr⟩ := HX.out
      obtain ⟨lb2, h1, h2⟩ := RfR.lay (s := { s with A := oA, c := oc, L := out }) HH.out hR.bx (by rw [← hB]; exact hbr) (Nat.le_of_eq hB.symm) hown hins hs HH.out.q0 HH.out.f0 HH.out.g0
      have o3 := (((Oth.refl rb (wr.setCell ⟨rb, 1, none⟩ (.slice oA out.length oc))).set 5 (.bool false)).set 3 (.int .i64 (-1))).set 4 (.int .i64 (-1))
      refine ⟨rfl, { s with A := oA, c := oc, L := out, de := false, fu := -1, fa := -1 }, lb2, h1.box (s2 := { s with A := oA, c := oc, L := out, de := false, fu := -1, fa := -1 }) o3 (((h1.bx.set (j := 5) (.bool false) rfl).set (j := 3) (.int .i64 (-1)) rfl).set (j := 4) (.int .i64 (-1)) rfl) rfl rfl rfl HH.out.q0 ⟨by show (-9223372036854775808 : Int) ≤ -1; omega, by show (-1 : Int) ≤ 9223372036854775807; omega⟩ ⟨by show (-9223372036854775808 : Int) ≤ -1; omega, by show (-1 : Int) ≤ 9223372036854775807; omega⟩, by show out.length ≤ _; omega, (Ost.ofSet (by rw [← hB]; exact hbr) _ _).trans (.ofOth o3), h2⟩
end Go.Proofs.Ytbgfmcmaklobaaa
