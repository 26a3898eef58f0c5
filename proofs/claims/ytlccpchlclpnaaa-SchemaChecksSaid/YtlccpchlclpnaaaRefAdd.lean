/- THE WALK of the document's Add of a field. No statement of the seat is proved here; no condition. -/
import Derived.Test.YtlccpchlclpnaaaGreat
namespace Go.Proofs.Ytlccpchlclpnaaa
open Go.RowKit

theorem set1a (W : World) (b : Nat) (u v x : Value) (hb : b < W.heap.size) (c0 : W.cell? ⟨b, 0, none⟩ = some u) (c1 : W.cell? ⟨b, 1, none⟩ = some v) (fz : W.frozen? ⟨b, 1, none⟩ = false) (o : Obj) :
    ((W.setCell ⟨b, 1, none⟩ x).alloc o).cell? ⟨b, 0, none⟩ = some u ∧ ((W.setCell ⟨b, 1, none⟩ x).alloc o).cell? ⟨b, 1, none⟩ = some x ∧ ((W.setCell ⟨b, 1, none⟩ x).alloc o).frozen? ⟨b, 1, none⟩ = false := by
  have hs : (W.setCell ⟨b, 1, none⟩ x).heap.size = W.heap.size := by simp
  have hB := (Below.refl (W.setCell ⟨b, 1, none⟩ x).heap.size (W.setCell ⟨b, 1, none⟩ x)).alloc (Nat.le_refl _) o
  refine ⟨(hB.cell (p := ⟨b, 0, none⟩) (by rw [hs]; exact hb)).trans ?_, (hB.cell (p := ⟨b, 1, none⟩) (by rw [hs]; exact hb)).trans ?_, (hB.frozen (p := ⟨b, 1, none⟩) (by rw [hs]; exact hb)).trans ?_⟩
  · go_simp
  · go_simp
  · go_simp
set_option maxRecDepth 100000 in
set_option maxHeartbeats 3000000 in
theorem refAdd (w : World) (id : UInt32) (n c : Nat) (A : Option Addr) (l : List Fd) (hr : Rd w w.heap.size 4 A n c (fdsV l)) (name : ByteArray) (k : Nat) (hk : k < 256) :
    Calls Try.prog 14 #[.agg #[.int .u32 (id.toNat : Int), .slice A n c], .string name, .int .i64 (k : Int)] w (AddEnd w id l name k) := by
  obtain rfl := hr.lenF
  have hidb : id.toNat < 4294967296 := id.toNat_lt
  go_enter Try.func14, Try.ntmps14
  go_wp2_with fail
  have x1 := box_new w #[.int .u32 (id.toNat : Int), .slice A l.length c] 25
  generalize hwa : w.alloc (.cells #[.int .u32 (id.toNat : Int), .slice A l.length c] 25) = wa at *
  have x3 := box_new wa #[.int .u32 0, .slice none 0 0] 25
  generalize hwc : wa.alloc (.cells #[.int .u32 0, .slice none 0 0] 25) = w2 at *
  have za := x1.size
  obtain ⟨cs, _, zs, hb2⟩ := x1.lift x3.below
  obtain ⟨cr, fr, zr, _⟩ := x3.lift (Below.refl _ _)
  have s0 := cs 0 _ rfl
  have s1 := cs 1 _ rfl
  have r0 := cr 0 _ rfl
  have r1 := cr 1 _ rfl
  have rf0 := fr 0
  have rf1 := fr 1
  have hr2 := (hr.below hb2).more hb2.size
  rw [show w.heap.size + 1 = wa.heap.size by omega]
  have zbr : w.heap.size ≤ wa.heap.size := by omega
  generalize hbs : w.heap.size = bs at *
  generalize hbr : wa.heap.size = br at *
  have HZ := hide (And.intro hbs hbr)
  clear hwa hwc cs cr fr x1 x3 za hbs hbr
  refine (refCheck w2 id _ c A l hr2).mono ?_
  rintro e w3 ⟨rfl, hb3⟩
  have hB3 : Below bs w w3 := below_call hb2 (Nat.le_of_lt zs) hb3
  have sa3 : w3.cell? ⟨bs, 0, none⟩ = some (.int .u32 (id.toNat : Int)) := (hb3.cell (p := ⟨bs, 0, none⟩) zs).trans s0
  have sb3 : w3.cell? ⟨bs, 1, none⟩ = some (.slice A l.length c) := (hb3.cell (p := ⟨bs, 1, none⟩) zs).trans s1
  have r03 : w3.cell? ⟨br, 0, none⟩ = some (.int .u32 0) := (hb3.cell (p := ⟨br, 0, none⟩) zr).trans r0
  have r13 : w3.cell? ⟨br, 1, none⟩ = some (.slice none 0 0) := (hb3.cell (p := ⟨br, 1, none⟩) zr).trans r1
  have f03 := (hb3.frozen (p := ⟨br, 0, none⟩) zr).trans rf0
  have f13 := (hb3.frozen (p := ⟨br, 1, none⟩) zr).trans rf1
  have hr3 := (hr2.below hb3).more hb3.size
  have zs3 : bs < w3.heap.size := Nat.lt_of_lt_of_le zs hb3.size
  have zr3 : br < w3.heap.size := Nat.lt_of_lt_of_le zr hb3.size
  clear s0 s1 r0 r1 rf0 rf1 hr2 zs zr hb3 hb2
  have hcle := check_le id l
  by_cases hck : check id l = 0
  · obtain ⟨hid1, hl1, hl8⟩ := check_len hck
    have t1 : ((check id l : Int) != 0) = false := by rw [hck]; rfl
    have HCK := hide hck
    obtain ⟨m, hm⟩ : ∃ m, m = l.length - 1 := ⟨_, rfl⟩
    have hml : m < l.length := by omega
    have hm1 : ((l.length : Int) - 1) = (m : Int) := by omega
    obtain ⟨b, off, rfl, hb, f0, _, _, _⟩ := hr3.fd hml
    have hlid : lastId l = (l.getD m default).id.toNat := by unfold lastId; rw [← hm]
    have hlidb : (l.getD m default).id.toNat < 4294967296 := UInt32.toNat_lt _
    clear hm hcle
    generalize check id l = ck at t1
    generalize (l.getD m default).id.toNat = lid at *
    have HLD := hide hlid
    clear hlid
    by_cases g8 : l.length = 8
    · have y1 : ((l.length : Int) == 8) = true := by rw [g8]; rfl
      obtain ⟨q1, q2, q3⟩ := add_4 (name := name) (k := k) HCK.out (by left; exact g8)
      have HQ := hide (And.intro q1 (And.intro q2 q3))
      clear q1 q2 q3
      have HG := hide g8
      clear g8
      go_wp2_with fail
      (try simp only [Exit.inBlock, Exit.then])
      refine bodyPost_ret (ret_sch (b := br) (x := .int .u32 0) (y := .slice none 0 0) rfl _ _ rfl (set2 w3 br _ _ _ _ r03 r13).1 (set2 w3 br _ _ _ _ r03 r13).2) rfl ?_
      exact AddEnd.bad HQ.out.1 HQ.out.2.1 HQ.out.2.2 (by rw [HZ.out.1]; exact below_set2 hB3 br zbr _ _)
    · have y1 : ((l.length : Int) == 8) = false := by rw [beq_eq_false_iff_ne]; omega
      by_cases gl : lid = 4294967295
      · have y2 : ((lid : Int) == 4294967295) = true := by rw [beq_iff_eq]; omega
        obtain ⟨q1, q2, q3⟩ := add_4 (name := name) (k := k) HCK.out (by right; left; rw [HLD.out]; exact gl)
        have HQ := hide (And.intro q1 (And.intro q2 q3))
        clear q1 q2 q3
        have HG := hide gl
        clear gl
        go_wp2_with fail
        (try simp only [Exit.inBlock, Exit.then])
        refine bodyPost_ret (ret_sch (b := br) (x := .int .u32 0) (y := .slice none 0 0) rfl _ _ rfl (set2 w3 br _ _ _ _ r03 r13).1 (set2 w3 br _ _ _ _ r03 r13).2) rfl ?_
        exact AddEnd.bad HQ.out.1 HQ.out.2.1 HQ.out.2.2 (by rw [HZ.out.1]; exact below_set2 hB3 br zbr _ _)
      · have y2 : ((lid : Int) == 4294967295) = false := by rw [beq_eq_false_iff_ne]; omega
        by_cases gi : id.toNat = 4294967295
        · have y3 : ((id.toNat : Int) == 4294967295) = true := by rw [beq_iff_eq]; omega
          obtain ⟨q1, q2, q3⟩ := add_4 (name := name) (k := k) HCK.out (by right; right; exact gi)
          have HQ := hide (And.intro q1 (And.intro q2 q3))
          clear q1 q2 q3
          have HG := hide gi
          clear gi gl
          go_wp2_with fail
          (try simp only [Exit.inBlock, Exit.then])
          refine bodyPost_ret (ret_sch (b := br) (x := .int .u32 0) (y := .slice none 0 0) rfl _ _ rfl (set2 w3 br _ _ _ _ r03 r13).1 (set2 w3 br _ _ _ _ r03 r13).2) rfl ?_
          exact AddEnd.bad HQ.out.1 HQ.out.2.1 HQ.out.2.2 (by rw [HZ.out.1]; exact below_set2 hB3 br zbr _ _)
        · have y3 : ((id.toNat : Int) == 4294967295) = false := by rw [beq_eq_false_iff_ne]; omega
          have h4 : Hid (¬ (l.length = 8 ∨ lastId l = 4294967295 ∨ id.toNat = 4294967295)) := hide (by rw [HLD.out]; omega)
          have hlid2 : lid + 1 < 4294967296 := by omega
          have hid2 : id.toNat + 1 < 4294967296 := by omega
          clear g8 gl gi
          go_wp2_with fail
          refine (refNamed w3 name).mono ?_
          rintro e w5 ⟨rfl, hb5⟩
          have sa5 := (hb5.cell (p := ⟨bs, 0, none⟩) zs3).trans sa3
          have sb5 := (hb5.cell (p := ⟨bs, 1, none⟩) zs3).trans sb3
          have r05 := (hb5.cell (p := ⟨br, 0, none⟩) zr3).trans r03
          have r15 := (hb5.cell (p := ⟨br, 1, none⟩) zr3).trans r13
          have f05 := (hb5.frozen (p := ⟨br, 0, none⟩) zr3).trans f03
          have f15 := (hb5.frozen (p := ⟨br, 1, none⟩) zr3).trans f13
          have zs5 := Nat.lt_of_lt_of_le zs3 hb5.size
          have zr5 := Nat.lt_of_lt_of_le zr3 hb5.size
          have hB5 : Below bs w w5 := below_call hB3 (Nat.le_of_lt zs3) hb5
          have hr5 := (hr3.below hb5).more hb5.size
          clear sa3 sb3 r03 r13 f03 f13 zs3 zr3 hB3 hr3 hb5 f0 hb
          obtain ⟨hv, hhas⟩ : ∃ hv, hv = hasName l name := ⟨_, rfl⟩
          have hcon2 : Calls Try.prog 57 #[.slice (some ⟨b, off, none⟩) l.length c, .string name] w5 fun e w' => e = .returned (.bool hv) ∧ w5 = w' := by
            rw [hhas]
            exact refHas w5 _ l.length c _ l hr5 name (by omega)
          have HHAS := hide hhas
          clear hhas
          cases hnm : named name with
          | false =>
            obtain ⟨q1, q2, q3⟩ := add_80 (name := name) (k := k) HCK.out h4.out (by rw [hnm]; rfl)
            have HQ := hide (And.intro q1 (And.intro q2 q3))
            clear q1 q2 q3 hcon2
            go_wp2_with fail
            (try simp only [Exit.inBlock, Exit.then])
            refine bodyPost_ret (ret_sch (b := br) (x := .int .u32 0) (y := .slice none 0 0) rfl _ _ rfl (set2 w5 br _ _ _ _ r05 r15).1 (set2 w5 br _ _ _ _ r05 r15).2) rfl ?_
            exact AddEnd.bad HQ.out.1 HQ.out.2.1 HQ.out.2.2 (by rw [HZ.out.1]; exact below_set2 hB5 br zbr _ _)
          | true =>
            go_wp2_with fail
            refine hcon2.mono ?_
            rintro e w8 ⟨rfl, rfl⟩
            clear hcon2
            have hhas := HHAS.out.symm
            cases hv with
            | true =>
              obtain ⟨q1, q2, q3⟩ := add_80 (name := name) (k := k) HCK.out h4.out (by rw [hnm, hhas]; rfl)
              have HQ := hide (And.intro q1 (And.intro q2 q3))
              clear q1 q2 q3
              go_wp2_with fail
              (try simp only [Exit.inBlock, Exit.then])
              refine bodyPost_ret (ret_sch (b := br) (x := .int .u32 0) (y := .slice none 0 0) rfl _ _ rfl (set2 w5 br _ _ _ _ r05 r15).1 (set2 w5 br _ _ _ _ r05 r15).2) rfl ?_
              exact AddEnd.bad HQ.out.1 HQ.out.2.1 HQ.out.2.2 (by rw [HZ.out.1]; exact below_set2 hB5 br zbr _ _)
            | false =>
              have h80 : Hid ((!named name || hasName l name) = false) := hide (by rw [hnm, hhas]; rfl)
              clear hnm hhas
              by_cases g1 : k < 1 ∨ 3 < k
              · obtain ⟨q1, q2, q3⟩ := add_10 (name := name) (k := k) HCK.out h4.out h80.out g1
                have HQ := hide (And.intro q1 (And.intro q2 q3))
                clear q1 q2 q3
                by_cases g2 : k < 1
                · have y4 : decide ((k : Int) < 1) = true := decide_eq_true (by omega)
                  clear g1 g2
                  go_wp2_with fail
                  (try simp only [Exit.inBlock, Exit.then])
                  refine bodyPost_ret (ret_sch (b := br) (x := .int .u32 0) (y := .slice none 0 0) rfl _ _ rfl (set2 w5 br _ _ _ _ r05 r15).1 (set2 w5 br _ _ _ _ r05 r15).2) rfl ?_
                  exact AddEnd.bad HQ.out.1 HQ.out.2.1 HQ.out.2.2 (by rw [HZ.out.1]; exact below_set2 hB5 br zbr _ _)
                · have y4 : decide ((k : Int) < 1) = false := decide_eq_false (by omega)
                  have y5 : decide ((3 : Int) < (k : Int)) = true := decide_eq_true (by omega)
                  clear g1 g2
                  go_wp2_with fail
                  (try simp only [Exit.inBlock, Exit.then])
                  refine bodyPost_ret (ret_sch (b := br) (x := .int .u32 0) (y := .slice none 0 0) rfl _ _ rfl (set2 w5 br _ _ _ _ r05 r15).1 (set2 w5 br _ _ _ _ r05 r15).2) rfl ?_
                  exact AddEnd.bad HQ.out.1 HQ.out.2.1 HQ.out.2.2 (by rw [HZ.out.1]; exact below_set2 hB5 br zbr _ _)
              · obtain ⟨q1, q2, q3⟩ := add_0 (name := name) (k := k) HCK.out h4.out h80.out g1
                have HQ := hide (And.intro q1 (And.intro q2 q3))
                have y4 : decide ((k : Int) < 1) = false := decide_eq_false (by omega)
                have y5 : decide ((3 : Int) < (k : Int)) = false := decide_eq_false (by omega)
                clear q1 q2 q3 g1
                obtain ⟨nid, hnid⟩ : ∃ nid, nid = id.toNat + 1 := ⟨_, rfl⟩
                obtain ⟨nl, hnl⟩ : ∃ nl, nl = lid + 1 := ⟨_, rfl⟩
                have hid3 : (id.toNat : Int) + 1 = (nid : Int) := by omega
                have hlid3 : (lid : Int) + 1 = (nl : Int) := by omega
                have hk3 : (k : Int) % 256 = (k : Int) := by omega
                have hnf : (#[.int .u32 (nl : Int), .string name, .int .u8 (k : Int), .bool false] : Array Value).toList = fdV (newFd l name k) := by rw [newFd_V l name k (by rw [HLD.out]; exact hlid2) hk, HLD.out, hnl]
                have HNID := hide hnid
                have HNF := hide hnf
                clear hnf
                have hbase : w5.heap.size < w5.heap.size + 1 := Nat.lt_succ_self _
                have xT := box_new w5 #[.int .u32 (nid : Int), .slice none 0 0] 25
                have ct0 := xT.cell 0 _ rfl
                have ct1 := xT.cell 1 _ rfl
                have ctf := xT.free 1
                have r0T := (xT.below.cell (p := ⟨br, 0, none⟩) zr5).trans r05
                have r1T := (xT.below.cell (p := ⟨br, 1, none⟩) zr5).trans r15
                have f0T := (xT.below.frozen (p := ⟨br, 0, none⟩) zr5).trans f05
                have f1T := (xT.below.frozen (p := ⟨br, 1, none⟩) zr5).trans f15
                have hBT := xT.below
                have zr6 : br < w5.heap.size + 1 := Nat.lt_trans zr5 hbase
                have zrn : br ≠ w5.heap.size := Nat.ne_of_lt zr5
                clear hnid hnl xT
                have hone : ∀ u ∈ fdV (newFd l name k), u.oneCell' = true := fun u hu => fdsV_one [newFd l name k] u (by simpa [fdsV] using hu)
                go_wp2_with (first
                  | (at_builtin; (refine wpList_app _ tyFields rfl (.tmp 62) (.tmp 64) rfl (w5.heap.size + 1) _ 0 [] rfl (World.ownsRow_nil _ _ _ _) w5.heap.size (some ⟨b, off, none⟩) _ c _ rfl (hr5.alloc (Nat.le_refl _) _) (fdsV_one l) (by omega) (by simp) ?_; intro v2 w6 hown6 hg6 _; simp only [Nat.zero_add, List.nil_append] at hown6; have hb6 := below_app (Below.refl (w5.heap.size + 1) _) (Nat.le_refl _) (World.ownsRow_nil _ (w5.heap.size + 1) 96 4) hg6 (by simp); have tc0 := (hb6.cell (p := ⟨w5.heap.size, 0, none⟩) hbase).trans ct0; have tc1 := (hb6.cell (p := ⟨w5.heap.size, 1, none⟩) hbase).trans ct1; have tf1 := (hb6.frozen (p := ⟨w5.heap.size, 1, none⟩) hbase).trans ctf; have r06 := (hb6.cell (p := ⟨br, 0, none⟩) zr6).trans r0T; have r16 := (hb6.cell (p := ⟨br, 1, none⟩) zr6).trans r1T; have f06 := (hb6.frozen (p := ⟨br, 0, none⟩) zr6).trans f0T; have f16 := (hb6.frozen (p := ⟨br, 1, none⟩) zr6).trans f1T; obtain ⟨g2, cap2, rfl, _, _⟩ := hown6.form hl1; have sz6 := hb6.size; simp only [World.size_alloc] at sz6; have hlR : Rd ((w6.setCell ⟨w5.heap.size, 1, none⟩ (.slice (some ⟨g2, 0, none⟩) l.length cap2)).alloc (.cells #[.int .u32 (nl : Int), .string name, .int .u8 (k : Int), .bool false] 96)) (w6.heap.size + 1) 4 (some ⟨w6.heap.size, 0, none⟩) 1 1 (fdV (newFd l name k)) := (by have h := Rd.lit (w6.setCell ⟨w5.heap.size, 1, none⟩ (.slice (some ⟨g2, 0, none⟩) l.length cap2)) (n := 1) (sz := 4) 96 #[.int .u32 (nl : Int), .string name, .int .u8 (k : Int), .bool false] rfl (by decide); rw [show (w6.setCell ⟨w5.heap.size, 1, none⟩ (.slice (some ⟨g2, 0, none⟩) l.length cap2)).heap.size = w6.heap.size by simp] at h; exact Eq.mp (congrArg (fun z => Rd _ _ 4 _ 1 1 z) HNF.out) h); have HLR := hide hlR; have ht6 := set1a w6 w5.heap.size _ _ (.slice (some ⟨g2, 0, none⟩) l.length cap2) (by omega) tc0 tc1 tf1 (.cells #[.int .u32 (nl : Int), .string name, .int .u8 (k : Int), .bool false] 96); have HT6 := hide ht6; have hbS := ((Below.refl w5.heap.size w6).setCell (p := ⟨w5.heap.size, 1, none⟩) (Nat.le_refl _) (.slice (some ⟨g2, 0, none⟩) l.length cap2)).alloc (by simp; omega) (.cells #[.int .u32 (nl : Int), .string name, .int .u8 (k : Int), .bool false] 96); have hown6' := (ownsRow_setCell_below hown6 (a := ⟨w5.heap.size, 1, none⟩) hbase (.slice (some ⟨g2, 0, none⟩) l.length cap2)).alloc (.cells #[.int .u32 (nl : Int), .string name, .int .u8 (k : Int), .bool false] 96); clear hg6 hlR ht6 hown6))
                  | (at_builtin; (refine wpList_app _ tyFields rfl (.tmp 68) (.tmp 75) rfl (w5.heap.size + 1) _ _ _ rfl hown6' (w6.heap.size + 1) _ 1 1 _ rfl HLR.out hone (by omega) (by simp; omega) ?_; intro v3 w7 hown7 hg7 _; have hb7 := below_app (Below.refl (w5.heap.size + 1) _) (Nat.le_refl _) hown6' hg7 (by simp; omega); have td0 := (hb7.cell (p := ⟨w5.heap.size, 0, none⟩) hbase).trans HT6.out.1; have td1 := (hb7.cell (p := ⟨w5.heap.size, 1, none⟩) hbase).trans HT6.out.2.1; have tdf := (hb7.frozen (p := ⟨w5.heap.size, 1, none⟩) hbase).trans HT6.out.2.2; have r07 := (hb7.cell (p := ⟨br, 0, none⟩) zr6).trans ((hbS.cell (p := ⟨br, 0, none⟩) zr5).trans r06); have r17 := (hb7.cell (p := ⟨br, 1, none⟩) zr6).trans ((hbS.cell (p := ⟨br, 1, none⟩) zr5).trans r16); have f07 := (hb7.frozen (p := ⟨br, 0, none⟩) zr6).trans ((hbS.frozen (p := ⟨br, 0, none⟩) zr5).trans f06); have f17 := (hb7.frozen (p := ⟨br, 1, none⟩) zr6).trans ((hbS.frozen (p := ⟨br, 1, none⟩) zr5).trans f16); obtain ⟨g3, cap3, rfl, _, _⟩ := hown7.form (Nat.succ_pos _); clear hg7)))
                (try simp only [Exit.inBlock, Exit.then])
                have u7 : (w7.setCell ⟨w5.heap.size, 1, none⟩ (.slice (some ⟨g3, 0, none⟩) (l.length + 1) cap3)).cell? ⟨br, 0, none⟩ = some (.int .u32 0) := (((Below.refl w5.heap.size w7).setCell (p := ⟨w5.heap.size, 1, none⟩) (Nat.le_refl _) (.slice (some ⟨g3, 0, none⟩) (l.length + 1) cap3)).cell (p := ⟨br, 0, none⟩) zr5).trans r07
                have v7 : (w7.setCell ⟨w5.heap.size, 1, none⟩ (.slice (some ⟨g3, 0, none⟩) (l.length + 1) cap3)).cell? ⟨br, 1, none⟩ = some (.slice none 0 0) := (((Below.refl w5.heap.size w7).setCell (p := ⟨w5.heap.size, 1, none⟩) (Nat.le_refl _) (.slice (some ⟨g3, 0, none⟩) (l.length + 1) cap3)).cell (p := ⟨br, 1, none⟩) zr5).trans r17
                refine bodyPost_ret (ret_sch (b := br) (x := .int .u32 (nid : Int)) (y := (.slice (some ⟨g3, 0, none⟩) (l.length + 1) cap3)) rfl _ _ rfl (set2 (w7.setCell ⟨w5.heap.size, 1, none⟩ (.slice (some ⟨g3, 0, none⟩) (l.length + 1) cap3)) br _ _ _ _ u7 v7).1 (set2 (w7.setCell ⟨w5.heap.size, 1, none⟩ (.slice (some ⟨g3, 0, none⟩) (l.length + 1) cap3)) br _ _ _ _ u7 v7).2) rfl ?_
                have hownA := ownsRow_setCell_below (ownsRow_setCell_below (ownsRow_setCell_below hown7 (a := ⟨w5.heap.size, 1, none⟩) hbase (.slice (some ⟨g3, 0, none⟩) (l.length + 1) cap3)) (a := ⟨br, 0, none⟩) zr6 (.int .u32 (nid : Int))) (a := ⟨br, 1, none⟩) zr6 (.slice (some ⟨g3, 0, none⟩) (l.length + 1) cap3)
                have hfin : fdsV l ++ fdV (newFd l name k) = fdsV (l ++ [newFd l name k]) := by rw [fdsV_append]; simp [fdsV]
                rw [hfin] at hownA
                obtain ⟨Ao, co, hAo, hro⟩ := Rd.of_own hownA
                injection hAo with q1 q2 q3
                subst q1 q3
                have hB7 : Below bs w (w7.setCell ⟨w5.heap.size, 1, none⟩ (.slice (some ⟨g3, 0, none⟩) (l.length + 1) cap3)) := by
                  have h1 : Below bs w w6 := (hB5.alloc (Nat.le_of_lt zs5) _).trans (hb6.mono (by omega))
                  have h2 := (h1.setCell (p := ⟨w5.heap.size, 1, none⟩) (Nat.le_of_lt zs5) (.slice (some ⟨g2, 0, none⟩) l.length cap2)).alloc (by simp; omega) (.cells #[.int .u32 (nl : Int), .string name, .int .u8 (k : Int), .bool false] 96)
                  exact (h2.trans (hb7.mono (by omega))).setCell (p := ⟨w5.heap.size, 1, none⟩) (Nat.le_of_lt zs5) _
                refine ⟨_, by rw [HQ.out.1]; rfl, ?_, by rw [HZ.out.1]; exact below_set2 hB7 br zbr _ _⟩
                rw [HQ.out.2.1, HQ.out.2.2]
                refine ⟨some ⟨g3, 0, none⟩, cap3, ?_, ?_⟩
                · rw [ofNat32 hid2, List.length_append, HNID.out]; rfl
                · rw [List.length_append]; exact hro
  · obtain ⟨q1, q2, q3⟩ := add_check (name := name) (k := k) hck
    have HQ := hide (And.intro q1 (And.intro q2 q3))
    clear q1 q2 q3
    have t1 : ((check id l : Int) != 0) = true := by rw [bne_iff_ne]; omega
    generalize check id l = ck at *
    go_wp2_with fail
    (try simp only [Exit.inBlock, Exit.then])
    refine bodyPost_ret (ret_sch (b := br) (x := .int .u32 0) (y := .slice none 0 0) rfl _ _ rfl (set2 w3 br _ _ _ _ r03 r13).1 (set2 w3 br _ _ _ _ r03 r13).2) rfl ?_
    exact AddEnd.bad HQ.out.1 HQ.out.2.1 HQ.out.2.2 (by rw [HZ.out.1]; exact below_set2 hB3 br zbr _ _)
end Go.Proofs.Ytlccpchlclpnaaa
