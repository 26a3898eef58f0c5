/- THE WALK of the reference's Put: for safety alone. No statement of the seat is proved here; no condition but sizes. -/
import Derived.Test.YtbgfmcmaklobaaaObZ
namespace Go.Proofs.Ytbgfmcmaklobaaa
open Go.RowKit

set_option maxRecDepth 100000 in
set_option maxHeartbeats 4000000 in
theorem refPut (w : World) (sb mb rb lb : Nat) (s : Rf) (h : RfR w sb mb rb lb s) (hl : s.L.length ≤ 900) (hs : sb < w.heap.size ∧ mb < w.heap.size) (nm : ByteArray) (hn : nm.size ≤ maxLen) (A : Option Addr) (c : Nat) (bs : List UInt8) (hr : RdP w (Ofl sb mb rb lb) A bs.length c bs) : Calls Try.prog 27 #[.pointer (some ⟨rb, 0, none⟩), .string nm, .slice A bs.length c] w (RfCode w sb mb rb lb (s.L.length + 1)) := by
  have c5 := h.bx.cell 5 _ rfl
  have HE : Hid (∀ k : Int, RfCode w sb mb rb lb (s.L.length + 1) (.returned (.int .i64 k)) w) := hide fun k => ⟨k, rfl, s, lb, h, Nat.le_succ _, Ost.refl _ _ _, .inl rfl⟩
  cases hd : s.de with
  | true =>
    rw [hd] at c5
    clear hd
    go_enter Try.func27, Try.ntmps27
    go_wp2_with fail
    go_ret
    exact HE.out 120
  | false =>
  rw [hd] at c5
  clear hd
  go_enter Try.func27, Try.ntmps27
  go_wp2_with fail
  refine (refNamed12 w nm hn).mono ?_
  rintro e w1 ⟨rfl, rfl⟩
  cases hp : pathOk nm with
  | false =>
    clear hp
    go_wp2_with fail
    go_ret
    exact HE.out 1
  | true =>
  clear hp
  go_wp2_with fail
  refine (refAt w sb mb rb lb s h nm).mono ?_
  rintro e w1 ⟨k, rfl, k1, k2, rfl⟩
  by_cases hk : 0 ≤ k
  · have t22 : decide (0 ≤ k) = true := decide_eq_true hk
    clear hk
    go_wp2_with fail
    go_ret
    exact HE.out 3
  have t22 : decide (0 ≤ k) = false := decide_eq_false hk
  clear hk k1 k2
  by_cases hlong : 65536 < bs.length
  · have t25 : decide ((65536 : Int) < (bs.length : Int)) = true := decide_eq_true (by omega)
    clear hlong
    go_wp2_with fail
    go_ret
    exact HE.out 5
  have t25 : decide ((65536 : Int) < (bs.length : Int)) = false := decide_eq_false (by omega)
  have hbl : bs.length ≤ 65536 := by omega
  clear hlong
  go_upto_region 9 with fail
  have hD := h.keep (Below.refl _ w).drew
  have d0 := hD.bx.cell 0 _ rfl
  refine wp_region_held_drew (S := fun w' => w'.cell? ⟨rb, 0, none⟩ = some (.int .i64 s.q)) (by kernel_rfl) ?_ (fun hHeld => ?_)
  · exact d0
  refine wpAnyH_take (i := 0) (v := ?_) rfl (by kernel_rfl) (by kernel_rfl) (by kernel_rfl) (fun _ _ _ h => h) (Or.inl ⟨by rfl, ?_⟩) hHeld ?_
  rotate_left 1
  · (intro w' hSw; go_simp; first | done | with_reducible rfl)
  (try simp only [Act.put, List.setIfInBounds_toArray, List.set_cons_zero, List.set_cons_succ])
  refine wpAnyH_take (i := 1) (v := ?_) rfl (by kernel_rfl) (by kernel_rfl) (by kernel_rfl) (fun _ _ _ h => h) (Or.inl ⟨by rfl, ?_⟩) hHeld ?_
  rotate_left 1
  · (intro w' hSw; go_simp; first | done | with_reducible rfl)
  (try simp only [Act.put, List.setIfInBounds_toArray, List.set_cons_zero, List.set_cons_succ])
  refine wpAnyH_take (i := 2) (v := ?_) rfl (by kernel_rfl) (by kernel_rfl) (by kernel_rfl) (fun _ _ _ h => h) (Or.inl ⟨by rfl, ?_⟩) hHeld ?_
  rotate_left 1
  · (intro w' hSw; go_simp; first | done | with_reducible rfl)
  (try simp only [Act.put, List.setIfInBounds_toArray, List.set_cons_zero, List.set_cons_succ])
  refine wpAnyH_take (i := 5) (v := ?_) rfl (by kernel_rfl) (by kernel_rfl) (by kernel_rfl) (fun _ _ _ h => h) (Or.inl ⟨by rfl, ?_⟩) hHeld ?_
  rotate_left 1
  · (intro w' hSw; go_simp; first | done | with_reducible rfl)
  (try simp only [Act.put, List.setIfInBounds_toArray, List.set_cons_zero, List.set_cons_succ])
  refine wpAnyH_take (i := 6) (v := ?_) rfl (by kernel_rfl) (by kernel_rfl) (by kernel_rfl) (fun _ _ _ h => h) (Or.inl ⟨by rfl, ?_⟩) hHeld ?_
  rotate_left 1
  · (intro w' hSw; go_simp; first | done | with_reducible rfl)
  (try simp only [Act.put, List.setIfInBounds_toArray, List.set_cons_zero, List.set_cons_succ])
  refine wpAnyH_take (i := 7) (v := ?_) rfl (by kernel_rfl) (by kernel_rfl) (by kernel_rfl) (fun _ _ _ h => h) (Or.inl ⟨by rfl, ?_⟩) hHeld ?_
  rotate_left 1
  · (intro w' hSw; go_simp; first | done | with_reducible rfl)
  (try simp only [Act.put, List.setIfInBounds_toArray, List.set_cons_zero, List.set_cons_succ])
  refine wpAnyH_take (i := 8) (v := ?_) rfl (by kernel_rfl) (by kernel_rfl) (by kernel_rfl) (fun _ _ _ h => h) (Or.inl ⟨by rfl, ?_⟩) hHeld ?_
  rotate_left 1
  · (intro w' hSw; go_simp; first | done | with_reducible rfl)
  (try simp only [Act.put, List.setIfInBounds_toArray, List.set_cons_zero, List.set_cons_succ])
  refine wpAnyH_ready (rs := [3]) (by kernel_rfl) (by simp) ?_
  refine AllReadyH.cons rfl (fun K hK => ?_) AllReadyH.nil
  go_simp
  go_at_call 38
  refine (refUsed w.drew sb mb rb lb s hD (by omega)).mono ?_
  rintro e w2 ⟨un, rfl, hun, rfl⟩
  obtain ⟨qb, hqb⟩ : ∃ x, decide (s.q < IntKind.i64.wrap ((bs.length : Int) + (un : Int))) = x := ⟨_, rfl⟩
  refine hK.out _ _ d0 (fun hHeld => ?_)
  clear hK K
  (try simp only [Act.put, List.setIfInBounds_toArray, List.set_cons_zero, List.set_cons_succ])
  refine wpAnyH_take (i := 4) (v := ?_) rfl (by kernel_rfl) (by kernel_rfl) (by kernel_rfl) (fun _ _ _ h => h) (Or.inl ⟨by rfl, ?_⟩) hHeld ?_
  rotate_left 1
  · (intro w' hSw; go_simp; first | done | with_reducible rfl)
  (try simp only [Act.put, List.setIfInBounds_toArray, List.set_cons_zero, List.set_cons_succ])
  refine wpAnyH_take (i := 9) (v := ?_) rfl (by kernel_rfl) (by kernel_rfl) (by kernel_rfl) (fun _ _ _ h => h) (Or.inl ⟨by rfl, ?_⟩) hHeld ?_
  rotate_left 1
  · (intro w' hSw; go_simp; first | done | with_reducible rfl)
  (try simp only [Act.put, List.setIfInBounds_toArray, List.set_cons_zero, List.set_cons_succ])
  refine wpAnyH_done (by kernel_rfl) ?_ _
  cases qb with
  | true =>
    go_wp2_with fail
    go_ret
    exact ⟨122, rfl, s, lb, hD, Nat.le_succ _, (Ost.refl _ _ _).drew, .inl rfl⟩
  | false =>
  have hrD := hr.low (Below.refl _ w).drew
  have hOD := (Oth.refl rb w).drew
  have hzD : w.drew.heap.size = w.heap.size := rfl
  clear hqb d0 h hr
  go_wp2_with fail
  generalize w.drew = w2 at *
  refine (refChange w2 sb mb rb lb s hD).mono ?_
  rintro e w3 ⟨j, rfl, hj, s3, h3, eL, eA, ec, O3⟩
  have hO3 := hOD.trans O3
  by_cases h121 : j = 121
  · subst h121
    clear hj
    go_wp2_with fail
    go_ret
    exact ⟨121, rfl, s3, lb, h3, by rw [eL]; exact Nat.le_succ _, .ofOth hO3, .inl rfl⟩
  have t39 : ((j : Int) == 121) = false := by rw [beq_eq_false_iff_ne]; omega
  clear h121 hj
  have hr3 := hrD.keep O3.size (fun p hp hl => O3.cell hl hp.2.2.1)
  have hlit := own_lit w3 (base := w3.heap.size) 5 1 0 #[] (Nat.le_refl _) (by decide) rfl
  have k1' := hr3.rd.alloc (Nat.le_refl _) (.cells #[] 5)
  have hbL := (Below.refl w3.heap.size w3).alloc (Nat.le_refl _) (.cells #[] 5)
  have hl3 : s3.L.length ≤ 900 := by rw [eL]; exact hl
  have HEL := hide eL
  have hz3 : w.heap.size ≤ w3.heap.size := hO3.size
  have HO3 := hide hO3
  have HR3 := hide h3
  clear O3 hOD hrD hD hzD hO3 eL eA ec h3 hr3

  go_wp2_with (at_builtin; refine wpList_app _ tyBytes rfl (.tmp 42) (.tmp 43) rfl w3.heap.size _ 0 [] rfl hlit w3.heap.size A _ c _ rfl k1' (bytesV_one _) (by omega) (by simp) ?_; intro v4 w4 hown4 hg4 _; simp only [Nat.zero_add, List.nil_append] at hown4; obtain ⟨A4, c4, rfl⟩ := own_slice hown4)
  have hb4 := below_app hbL (Nat.le_refl _) hlit hg4 hbL.size
  clear hlit k1' hbL hg4
  have y5 := boxN_new w4 #[.string nm, .slice A4 bs.length c4, .bool true] 73
  have hbA := (Below.refl w4.heap.size w4).alloc (Nat.le_refl _) (.cells #[.string nm, .slice A4 bs.length c4, .bool true] 73)
  have hb5 := below_call hb4 hb4.size hbA
  have hR5 := HR3.out.keep hb5
  have hrb3 := HR3.out.bx.z
  have hlb3 := HR3.out.lt
  have hx5 : RdP w4 (fun k => Ofl sb mb rb lb k ∧ k < (w4.alloc (.cells #[.string nm, .slice A4 bs.length c4, .bool true] 73)).heap.size) A4 bs.length c4 bs := (RdP.own (P := Ofl sb mb rb lb) hown4 (fun k hk => ⟨by omega, by omega, by omega, by omega⟩)).imp fun k h1 h2 => ⟨h1, Nat.lt_of_lt_of_le h2 hbA.size⟩
  replace hx5 := hx5.low hbA
  have hyz : w4.heap.size < (w4.alloc (.cells #[.string nm, .slice A4 bs.length c4, .bool true] 73)).heap.size := by simp
  clear hbA hb4 hown4
  go_wp2_with fail
  generalize w4.alloc (.cells #[.string nm, .slice A4 bs.length c4, .bool true] 73) = w5 at *
  generalize w4.heap.size = yb at *
  obtain ⟨B, hB⟩ : ∃ B, B = w5.heap.size := ⟨_, rfl⟩
  rw [← hB] at hx5 hyz
  obtain ⟨xx, hxx⟩ : ∃ xx : Tg, xx = ⟨nm, bs, true, A4, c4⟩ := ⟨_, rfl⟩
  have y5' : BoxN w5 yb [.string xx.nm, .slice xx.A xx.bs.length xx.c, .bool xx.lo] := by rw [hxx]; exact y5
  have hx5' : RdP w5 (fun k => Ofl sb mb rb lb k ∧ k < B) xx.A xx.bs.length xx.c xx.bs ∧ xx.bs.length ≤ 70000 := by rw [hxx]; exact ⟨hx5, by show bs.length ≤ 70000; omega⟩
  have HX := hide (And.intro hR5 (And.intro y5' hx5'))
  clear hxx y5'
  have HB5 := hide hb5
  have hwB : w3.heap.size ≤ B := by rw [hB]; exact hb5.size
  clear hR5 y5 hx5 hb5
  go_loopw [8, 9, 11] (fun v8 v9 iv wr => ∃ (k : Nat) (dn : Bool) (oA : Option Addr) (oc : Nat) (out : List Tg), v8 = .slice oA out.length oc ∧ v9 = .bool dn ∧ iv = .int .i64 (k : Int) ∧ k ≤ s3.L.length ∧ out.length ≤ k + dn.toNat ∧ wr.ownsRow B 73 3 (.slice oA out.length oc) out.length (thsV out) ∧ (∀ x ∈ out, RdP wr (fun k => Ofl sb mb rb lb k ∧ k < B) x.A x.bs.length x.c x.bs ∧ x.bs.length ≤ 70000) ∧ Below B w5 wr) (fun _ _ iv _ => s3.L.length - (intOf iv).toNat)
  case atStart => exact ⟨0, false, none, 0, [], rfl, rfl, rfl, Nat.zero_le _, Nat.zero_le _, World.ownsRow_nil _ _ _ _, by simp, Below.refl _ _⟩
  case round =>
    obtain ⟨i, dn, oA, oc, out, rfl, rfl, rfl, hi, hol, hown, hins, hbr⟩ := hrel
    have hR := HX.out.1.keep (by rw [← hB]; exact hbr)
    by_cases hlt : i < s3.L.length
    · cases dn with
      | true =>
        replace hol : out.length ≤ i + 1 := by simpa using hol
        have hR1 := HX.out.1.keep (by rw [← hB]; exact hbr)
        have c1 := hR1.bx.cell 1 _ rfl
        obtain ⟨b, off, hA, hx⟩ := hR1.el hlt
        obtain ⟨x0, x1, x2⟩ := hx _ rfl
        have hxi := getD_ins HX.out.1.ins hlt
        rw [hA] at c1
        generalize s3.L.getD i default = x at *
        have tr1 : RdP wr (fun k => Ofl sb mb rb lb k ∧ k < B) x.A x.bs.length x.c x.bs ∧ x.bs.length ≤ 70000 := ⟨(hxi.1.imp (fun k h1 h2 => ⟨h1, by rw [hB]; exact h2⟩)).low (by rw [← hB]; exact hbr), hxi.2⟩
        clear hxi hx hR1
        have hBW1 : B ≤ wr.heap.size := by rw [hB]; exact hbr.size
        have hbL := (Below.refl wr.heap.size wr).alloc (Nat.le_refl _) (.cells (thV x).toArray 73)
        have hom := own_below hown hbL
        have hrL : Rd (wr.alloc (.cells (thV x).toArray 73)) (wr.heap.size + 1) 3 (some ⟨wr.heap.size, 0, none⟩) 1 1 (thV x) := Rd.lit (n := 1) (sz := 3) wr 73 (thV x).toArray rfl (by unfold maxLen; omega)
        have hz6 : B ≤ (wr.alloc (.cells (thV x).toArray 73)).heap.size := Nat.le_trans hBW1 hbL.size
        have hz7 : wr.heap.size ≤ (wr.alloc (.cells (thV x).toArray 73)).heap.size := hbL.size
        have HB1 := hide ((Below.refl B wr).alloc hBW1 (.cells (thV x).toArray 73))
        have HI1 := hide (And.intro tr1 (And.intro hins hbr))
        simp only [thV] at hrL hom hz6 hz7
        have HZ1 := hide hz7
        clear hz7 hbL hown hins hbr tr1 
        go_wp2_with (at_builtin; refine wpList_app _ tyThs rfl (.tmp 73) (.tmp 81) rfl B _ out.length (thsV out) rfl hom (wr.heap.size + 1) _ 1 1 _ rfl hrL (thV_one x) (by omega) hz6 ?_; intro a1 v1 hown1 hg1 _)
        have hbb1 := below_app HB1.out (Nat.le_refl _) hom hg1 hz6
        have hbz1 := HI1.out.2.2.trans hbb1
        have e1 : (out ++ [x]).length = out.length + 1 := by simp
        have e2 : thsV (out ++ [x]) = thsV out ++ thV x := by simp [thsV]
        obtain ⟨g1, cap1, rfl, _, _⟩ := hown1.form (by omega)
        have hgs := hg1.size
        have hkp : ∀ y : Tg, RdP wr (fun k => Ofl sb mb rb lb k ∧ k < B) y.A y.bs.length y.c y.bs → RdP v1 (fun k => Ofl sb mb rb lb k ∧ k < B) y.A y.bs.length y.c y.bs := fun y hy => hy.keep (Nat.le_trans HZ1.out hgs) fun p hp _ => hbb1.cell hp.2
        obtain ⟨out1, hout1⟩ : ∃ o, o = out ++ [x] := ⟨_, rfl⟩
        have hown1' : v1.ownsRow B 73 3 (.slice (some ⟨g1, 0, none⟩) out1.length cap1) out1.length (thsV out1) := by rw [hout1, e1, e2]; exact hown1
        have hins1 : ∀ y ∈ out1, RdP v1 (fun k => Ofl sb mb rb lb k ∧ k < B) y.A y.bs.length y.c y.bs ∧ y.bs.length ≤ 70000 := fun y hy => by
          rw [hout1] at hy
          rcases List.mem_append.1 hy with hy | hy
          · exact ⟨hkp y (HI1.out.2.1 y hy).1, (HI1.out.2.1 y hy).2⟩
          · rw [List.mem_singleton.1 hy]
            exact ⟨hkp x HI1.out.1.1, HI1.out.1.2⟩
        have hlen1 : out1.length = out.length + 1 := by rw [hout1, e1]
        rw [← hlen1]
        clear hout1 e1 e2 hown1 hg1 hom hrL hkp hgs hbb1
        clear c1 x0 x1 x2
        go_wp2_with fail
        go_roundw
        case rel => exact ⟨i + 1, true, some ⟨g1, 0, none⟩, cap1, out1, rfl, rfl, by go_num, hlt, by rw [hlen1]; simp; omega, hown1', hins1, hbz1⟩
        case measure => simp [intOf]; omega
      | false =>
        replace hol : out.length ≤ i := by simpa using hol
        obtain ⟨b, off, hA, hx⟩ := hR.el hlt
        obtain ⟨xq, hxq⟩ : ∃ x, s3.L.getD i default = x := ⟨_, rfl⟩
        obtain ⟨x0, u1, u2⟩ := hx _ hxq
        clear u1 u2 hxq
        have c1 := hR.bx.cell 1 _ rfl
        rw [hA] at c1
        have hy := HX.out.2.1.keep hbr hyz
        have y0 := hy.cell 0 _ rfl
        have y1 := hy.cell 1 _ rfl
        have y2 := hy.cell 2 _ rfl
        clear hx hR hy
        cases tb : Op.bytesLess nm.toList xq.nm.toList with
        | true =>
          have tr2 : RdP wr (fun k => Ofl sb mb rb lb k ∧ k < B) xx.A xx.bs.length xx.c xx.bs ∧ xx.bs.length ≤ 70000 := ⟨HX.out.2.2.1.keep hbr.size (fun p hp _ => hbr.cell hp.2), HX.out.2.2.2⟩
          have hBW2 : B ≤ wr.heap.size := by rw [hB]; exact hbr.size
          have hbL := (Below.refl wr.heap.size wr).alloc (Nat.le_refl _) (.cells (thV xx).toArray 73)
          have hom := own_below hown hbL
          have hrL : Rd (wr.alloc (.cells (thV xx).toArray 73)) (wr.heap.size + 1) 3 (some ⟨wr.heap.size, 0, none⟩) 1 1 (thV xx) := Rd.lit (n := 1) (sz := 3) wr 73 (thV xx).toArray rfl (by unfold maxLen; omega)
          have hz6 : B ≤ (wr.alloc (.cells (thV xx).toArray 73)).heap.size := Nat.le_trans hBW2 hbL.size
          have hz7 : wr.heap.size ≤ (wr.alloc (.cells (thV xx).toArray 73)).heap.size := hbL.size
          have HB2 := hide ((Below.refl B wr).alloc hBW2 (.cells (thV xx).toArray 73))
          have HI2 := hide (And.intro tr2 (And.intro hins hbr))
          simp only [thV] at hrL hom hz6 hz7
          have HZ2 := hide hz7
          clear hz7 hbL hown hins hbr tr2 
          go_upto_region 22 with (at_builtin; refine wpList_app _ tyThs rfl (.tmp 69) (.tmp 71) rfl B _ out.length (thsV out) rfl hom (wr.heap.size + 1) _ 1 1 _ rfl hrL (thV_one xx) (by omega) hz6 ?_; intro a2 v2 hown2 hg2 _)
          have hbb2 := below_app HB2.out (Nat.le_refl _) hom hg2 hz6
          have hbz2 := HI2.out.2.2.trans hbb2
          have e1 : (out ++ [xx]).length = out.length + 1 := by simp
          have e2 : thsV (out ++ [xx]) = thsV out ++ thV xx := by simp [thsV]
          obtain ⟨g2, cap2, rfl, _, _⟩ := hown2.form (by omega)
          have hgs := hg2.size
          have hkp : ∀ y : Tg, RdP wr (fun k => Ofl sb mb rb lb k ∧ k < B) y.A y.bs.length y.c y.bs → RdP v2 (fun k => Ofl sb mb rb lb k ∧ k < B) y.A y.bs.length y.c y.bs := fun y hy => hy.keep (Nat.le_trans HZ2.out hgs) fun p hp _ => hbb2.cell hp.2
          obtain ⟨out2, hout2⟩ : ∃ o, o = out ++ [xx] := ⟨_, rfl⟩
          have hown2' : v2.ownsRow B 73 3 (.slice (some ⟨g2, 0, none⟩) out2.length cap2) out2.length (thsV out2) := by rw [hout2, e1, e2]; exact hown2
          have hins2 : ∀ y ∈ out2, RdP v2 (fun k => Ofl sb mb rb lb k ∧ k < B) y.A y.bs.length y.c y.bs ∧ y.bs.length ≤ 70000 := fun y hy => by
            rw [hout2] at hy
            rcases List.mem_append.1 hy with hy | hy
            · exact ⟨hkp y (HI2.out.2.1 y hy).1, (HI2.out.2.1 y hy).2⟩
            · rw [List.mem_singleton.1 hy]
              exact ⟨hkp xx HI2.out.1.1, HI2.out.1.2⟩
          have hlen2 : out2.length = out.length + 1 := by rw [hout2, e1]
          rw [← hlen2]
          clear hout2 e1 e2 hown2 hg2 hom hrL hkp hgs hbb2
          clear c1 x0 y0 y1 y2
          have hR3 := HX.out.1.keep (by rw [← hB]; exact hbz2)
          have c1 := hR3.bx.cell 1 _ rfl
          obtain ⟨b, off, hA, hx⟩ := hR3.el hlt
          obtain ⟨x0, x1, x2⟩ := hx _ rfl
          have hxi := getD_ins HX.out.1.ins hlt
          rw [hA] at c1
          generalize s3.L.getD i default = x at *
          have tr3 : RdP v2 (fun k => Ofl sb mb rb lb k ∧ k < B) x.A x.bs.length x.c x.bs ∧ x.bs.length ≤ 70000 := ⟨(hxi.1.imp (fun k h1 h2 => ⟨h1, by rw [hB]; exact h2⟩)).low (by rw [← hB]; exact hbz2), hxi.2⟩
          clear hxi hx hR3
          have hBW3 : B ≤ v2.heap.size := by rw [hB]; exact hbz2.size
          have hbL := (Below.refl v2.heap.size v2).alloc (Nat.le_refl _) (.cells (thV x).toArray 73)
          have hom := own_below hown2' hbL
          have hrL : Rd (v2.alloc (.cells (thV x).toArray 73)) (v2.heap.size + 1) 3 (some ⟨v2.heap.size, 0, none⟩) 1 1 (thV x) := Rd.lit (n := 1) (sz := 3) v2 73 (thV x).toArray rfl (by unfold maxLen; omega)
          have hz6 : B ≤ (v2.alloc (.cells (thV x).toArray 73)).heap.size := Nat.le_trans hBW3 hbL.size
          have hz7 : v2.heap.size ≤ (v2.alloc (.cells (thV x).toArray 73)).heap.size := hbL.size
          have HB3 := hide ((Below.refl B v2).alloc hBW3 (.cells (thV x).toArray 73))
          have HI3 := hide (And.intro tr3 (And.intro hins2 hbz2))
          simp only [thV] at hrL hom hz6 hz7
          have HZ3 := hide hz7
          clear hz7 hbL hown2' hins2 hbz2 tr3 
          go_wp2_with (at_builtin; refine wpList_app _ tyThs rfl (.tmp 73) (.tmp 81) rfl B _ out2.length (thsV out2) rfl hom (v2.heap.size + 1) _ 1 1 _ rfl hrL (thV_one x) (by omega) hz6 ?_; intro a3 v3 hown3 hg3 _)
          have hbb3 := below_app HB3.out (Nat.le_refl _) hom hg3 hz6
          have hbz3 := HI3.out.2.2.trans hbb3
          have e1 : (out2 ++ [x]).length = out2.length + 1 := by simp
          have e2 : thsV (out2 ++ [x]) = thsV out2 ++ thV x := by simp [thsV]
          obtain ⟨g3, cap3, rfl, _, _⟩ := hown3.form (by omega)
          have hgs := hg3.size
          have hkp : ∀ y : Tg, RdP v2 (fun k => Ofl sb mb rb lb k ∧ k < B) y.A y.bs.length y.c y.bs → RdP v3 (fun k => Ofl sb mb rb lb k ∧ k < B) y.A y.bs.length y.c y.bs := fun y hy => hy.keep (Nat.le_trans HZ3.out hgs) fun p hp _ => hbb3.cell hp.2
          obtain ⟨out3, hout3⟩ : ∃ o, o = out2 ++ [x] := ⟨_, rfl⟩
          have hown3' : v3.ownsRow B 73 3 (.slice (some ⟨g3, 0, none⟩) out3.length cap3) out3.length (thsV out3) := by rw [hout3, e1, e2]; exact hown3
          have hins3 : ∀ y ∈ out3, RdP v3 (fun k => Ofl sb mb rb lb k ∧ k < B) y.A y.bs.length y.c y.bs ∧ y.bs.length ≤ 70000 := fun y hy => by
            rw [hout3] at hy
            rcases List.mem_append.1 hy with hy | hy
            · exact ⟨hkp y (HI3.out.2.1 y hy).1, (HI3.out.2.1 y hy).2⟩
            · rw [List.mem_singleton.1 hy]
              exact ⟨hkp x HI3.out.1.1, HI3.out.1.2⟩
          have hlen3 : out3.length = out2.length + 1 := by rw [hout3, e1]
          rw [← hlen3]
          clear hout3 e1 e2 hown3 hg3 hom hrL hkp hgs hbb3
          clear c1 x0 x1 x2
          go_wp2_with fail
          go_roundw
          case rel => exact ⟨i + 1, true, some ⟨g3, 0, none⟩, cap3, out3, rfl, rfl, by go_num, hlt, by rw [hlen3]; simp; omega, hown3', hins3, hbz3⟩
          case measure => simp [intOf]; omega
        | false =>
          clear y0 y1 y2
          go_upto_region 23 with fail
          clear c1 x0
          have hR4 := HX.out.1.keep (by rw [← hB]; exact hbr)
          have c1 := hR4.bx.cell 1 _ rfl
          obtain ⟨b, off, hA, hx⟩ := hR4.el hlt
          obtain ⟨x0, x1, x2⟩ := hx _ rfl
          have hxi := getD_ins HX.out.1.ins hlt
          rw [hA] at c1
          generalize s3.L.getD i default = x at *
          have tr4 : RdP wr (fun k => Ofl sb mb rb lb k ∧ k < B) x.A x.bs.length x.c x.bs ∧ x.bs.length ≤ 70000 := ⟨(hxi.1.imp (fun k h1 h2 => ⟨h1, by rw [hB]; exact h2⟩)).low (by rw [← hB]; exact hbr), hxi.2⟩
          clear hxi hx hR4
          have hBW4 : B ≤ wr.heap.size := by rw [hB]; exact hbr.size
          have hbL := (Below.refl wr.heap.size wr).alloc (Nat.le_refl _) (.cells (thV x).toArray 73)
          have hom := own_below hown hbL
          have hrL : Rd (wr.alloc (.cells (thV x).toArray 73)) (wr.heap.size + 1) 3 (some ⟨wr.heap.size, 0, none⟩) 1 1 (thV x) := Rd.lit (n := 1) (sz := 3) wr 73 (thV x).toArray rfl (by unfold maxLen; omega)
          have hz6 : B ≤ (wr.alloc (.cells (thV x).toArray 73)).heap.size := Nat.le_trans hBW4 hbL.size
          have hz7 : wr.heap.size ≤ (wr.alloc (.cells (thV x).toArray 73)).heap.size := hbL.size
          have HB4 := hide ((Below.refl B wr).alloc hBW4 (.cells (thV x).toArray 73))
          have HI4 := hide (And.intro tr4 (And.intro hins hbr))
          simp only [thV] at hrL hom hz6 hz7
          have HZ4 := hide hz7
          clear hz7 hbL hown hins hbr tr4 
          go_wp2_with (at_builtin; refine wpList_app _ tyThs rfl (.tmp 73) (.tmp 81) rfl B _ out.length (thsV out) rfl hom (wr.heap.size + 1) _ 1 1 _ rfl hrL (thV_one x) (by omega) hz6 ?_; intro a4 v4 hown4 hg4 _)
          have hbb4 := below_app HB4.out (Nat.le_refl _) hom hg4 hz6
          have hbz4 := HI4.out.2.2.trans hbb4
          have e1 : (out ++ [x]).length = out.length + 1 := by simp
          have e2 : thsV (out ++ [x]) = thsV out ++ thV x := by simp [thsV]
          obtain ⟨g4, cap4, rfl, _, _⟩ := hown4.form (by omega)
          have hgs := hg4.size
          have hkp : ∀ y : Tg, RdP wr (fun k => Ofl sb mb rb lb k ∧ k < B) y.A y.bs.length y.c y.bs → RdP v4 (fun k => Ofl sb mb rb lb k ∧ k < B) y.A y.bs.length y.c y.bs := fun y hy => hy.keep (Nat.le_trans HZ4.out hgs) fun p hp _ => hbb4.cell hp.2
          obtain ⟨out4, hout4⟩ : ∃ o, o = out ++ [x] := ⟨_, rfl⟩
          have hown4' : v4.ownsRow B 73 3 (.slice (some ⟨g4, 0, none⟩) out4.length cap4) out4.length (thsV out4) := by rw [hout4, e1, e2]; exact hown4
          have hins4 : ∀ y ∈ out4, RdP v4 (fun k => Ofl sb mb rb lb k ∧ k < B) y.A y.bs.length y.c y.bs ∧ y.bs.length ≤ 70000 := fun y hy => by
            rw [hout4] at hy
            rcases List.mem_append.1 hy with hy | hy
            · exact ⟨hkp y (HI4.out.2.1 y hy).1, (HI4.out.2.1 y hy).2⟩
            · rw [List.mem_singleton.1 hy]
              exact ⟨hkp x HI4.out.1.1, HI4.out.1.2⟩
          have hlen4 : out4.length = out.length + 1 := by rw [hout4, e1]
          rw [← hlen4]
          clear hout4 e1 e2 hown4 hg4 hom hrL hkp hgs hbb4
          clear c1 x0 x1 x2
          go_wp2_with fail
          go_roundw
          case rel => exact ⟨i + 1, false, some ⟨g4, 0, none⟩, cap4, out4, rfl, rfl, by go_num, hlt, by rw [hlen4]; simp; omega, hown4', hins4, hbz4⟩
          case measure => simp [intOf]; omega
    · have hil : i = s3.L.length := by omega
      cases dn with
      | true =>
        clear hi
        replace hol : out.length ≤ i + 1 := by simpa using hol
        have hRe := HX.out.1.keep (w' := wr) (by rw [← hB]; exact hbr)
        have f1 := hRe.bx.free 1 (by simp)
        have cc1 := hRe.bx.cell 1 _ rfl
        have HF := hide (And.intro hRe (And.intro hown (And.intro hins hbr)))
        clear hRe hown hins hbr hlt
        go_wp2_with fail
        go_ret
        obtain ⟨hRe, hown, hins, hbr⟩ := HF.out
        have h3 := HR3.out
        have hb5w : Below w3.heap.size w3 wr := below_call HB5.out HB5.out.size (by rw [← hB]; exact hbr)
        have hsz := hb5w.size
        obtain ⟨lb2, h1, h2⟩ := RfR.lay (s := { s3 with A := oA, c := oc, L := out }) h3 hRe.bx hb5w hwB hown hins ⟨by omega, by omega⟩ h3.q0 h3.f0 h3.g0
        refine ⟨j, rfl, { s3 with A := oA, c := oc, L := out }, lb2, h1, ?_, ?_, ?_⟩
        · show out.length ≤ _; rw [← HEL.out]; omega
        · exact (Ost.ofOth HO3.out).trans (.ofSet hb5w _ _)
        · rcases h2 with q | q
          · exact .inl q
          · exact .inr (Nat.le_trans hz3 q)
      | false =>
        replace hol : out.length ≤ i := by simpa using hol
        have hy := HX.out.2.1.keep hbr hyz
        have y0 := hy.cell 0 _ rfl
        have y1 := hy.cell 1 _ rfl
        have y2 := hy.cell 2 _ rfl
        clear hy hR
        have tr6 : RdP wr (fun k => Ofl sb mb rb lb k ∧ k < B) xx.A xx.bs.length xx.c xx.bs ∧ xx.bs.length ≤ 70000 := ⟨HX.out.2.2.1.keep hbr.size (fun p hp _ => hbr.cell hp.2), HX.out.2.2.2⟩
        have hRh := HX.out.1.keep (by rw [← hB]; exact hbr)
        have c1 := hRh.bx.cell 1 _ rfl
        clear hRh hi
        have hBW6 : B ≤ wr.heap.size := by rw [hB]; exact hbr.size
        have hbL := (Below.refl wr.heap.size wr).alloc (Nat.le_refl _) (.cells (thV xx).toArray 73)
        have hom := own_below hown hbL
        have hrL : Rd (wr.alloc (.cells (thV xx).toArray 73)) (wr.heap.size + 1) 3 (some ⟨wr.heap.size, 0, none⟩) 1 1 (thV xx) := Rd.lit (n := 1) (sz := 3) wr 73 (thV xx).toArray rfl (by unfold maxLen; omega)
        have hz6 : B ≤ (wr.alloc (.cells (thV xx).toArray 73)).heap.size := Nat.le_trans hBW6 hbL.size
        have hz7 : wr.heap.size ≤ (wr.alloc (.cells (thV xx).toArray 73)).heap.size := hbL.size
        have HB6 := hide ((Below.refl B wr).alloc hBW6 (.cells (thV xx).toArray 73))
        have HI6 := hide (And.intro tr6 (And.intro hins hbr))
        simp only [thV] at hrL hom hz6 hz7
        have HZ6 := hide hz7
        clear hz7 hbL hown hins hbr tr6 
        go_upto_region 26 with (at_builtin; refine wpList_app _ tyThs rfl (.tmp 85) (.tmp 87) rfl B _ out.length (thsV out) rfl hom (wr.heap.size + 1) _ 1 1 _ rfl hrL (thV_one xx) (by omega) hz6 ?_; intro a6 v6 hown6 hg6 _)
        have hbb6 := below_app HB6.out (Nat.le_refl _) hom hg6 hz6
        have hbz6 := HI6.out.2.2.trans hbb6
        have e1 : (out ++ [xx]).length = out.length + 1 := by simp
        have e2 : thsV (out ++ [xx]) = thsV out ++ thV xx := by simp [thsV]
        obtain ⟨g6, cap6, rfl, _, _⟩ := hown6.form (by omega)
        have hgs := hg6.size
        have hkp : ∀ y : Tg, RdP wr (fun k => Ofl sb mb rb lb k ∧ k < B) y.A y.bs.length y.c y.bs → RdP v6 (fun k => Ofl sb mb rb lb k ∧ k < B) y.A y.bs.length y.c y.bs := fun y hy => hy.keep (Nat.le_trans HZ6.out hgs) fun p hp _ => hbb6.cell hp.2
        obtain ⟨out6, hout6⟩ : ∃ o, o = out ++ [xx] := ⟨_, rfl⟩
        have hown6' : v6.ownsRow B 73 3 (.slice (some ⟨g6, 0, none⟩) out6.length cap6) out6.length (thsV out6) := by rw [hout6, e1, e2]; exact hown6
        have hins6 : ∀ y ∈ out6, RdP v6 (fun k => Ofl sb mb rb lb k ∧ k < B) y.A y.bs.length y.c y.bs ∧ y.bs.length ≤ 70000 := fun y hy => by
          rw [hout6] at hy
          rcases List.mem_append.1 hy with hy | hy
          · exact ⟨hkp y (HI6.out.2.1 y hy).1, (HI6.out.2.1 y hy).2⟩
          · rw [List.mem_singleton.1 hy]
            exact ⟨hkp xx HI6.out.1.1, HI6.out.1.2⟩
        have hlen6 : out6.length = out.length + 1 := by rw [hout6, e1]
        rw [← hlen6]
        clear hout6 e1 e2 hown6 hg6 hom hrL hkp hgs hbb6
        clear c1 y0 y1 y2
        have hRe := HX.out.1.keep (w' := v6) (by rw [← hB]; exact hbz6)
        have f1 := hRe.bx.free 1 (by simp)
        have cc1 := hRe.bx.cell 1 _ rfl
        have HF := hide (And.intro hRe (And.intro hown6' (And.intro hins6 hbz6)))
        clear hRe hown6' hins6 hbz6 hlt
        go_wp2_with fail
        go_ret
        obtain ⟨hRe, hown, hins, hbr⟩ := HF.out
        have h3 := HR3.out
        have hb5w : Below w3.heap.size w3 v6 := below_call HB5.out HB5.out.size (by rw [← hB]; exact hbr)
        have hsz := hb5w.size
        obtain ⟨lb2, h1, h2⟩ := RfR.lay (s := { s3 with A := (some ⟨g6, 0, none⟩), c := cap6, L := out6 }) h3 hRe.bx hb5w hwB hown hins ⟨by omega, by omega⟩ h3.q0 h3.f0 h3.g0
        refine ⟨j, rfl, { s3 with A := (some ⟨g6, 0, none⟩), c := cap6, L := out6 }, lb2, (by simpa only [hlen6] using h1), ?_, ?_, ?_⟩
        · show out6.length ≤ _; rw [← HEL.out]; rw [hlen6]; omega
        · exact (Ost.ofOth HO3.out).trans (.ofSet hb5w _ _)
        · rcases h2 with q | q
          · exact .inl q
          · exact .inr (Nat.le_trans hz3 q)
end Go.Proofs.Ytbgfmcmaklobaaa
