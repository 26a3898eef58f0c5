/- THE WALK of the law MetaOpens, for other laws to call too. No condition but the table of sums. -/
import Derived.Test.YtlccpchlclpnaaaDoorMetaOW
import Derived.Test.YtlccpchlclpnaaaDoorMetaRX
namespace Go.Proofs.YtlccpchlclpnaaaDoor
open Go.RowKit

theorem opEnd_split {w w' : World} {l : List UInt8} {e : Ending} (h : OpEnd w l e w') : ∃ sA sc ss nA nc ns cur, e = .returned (.tuple #[.agg #[.slice sA (ss : List Sl).length sc, .slice nA (ns : List Nl).length nc, .int .u64 ((cur : Nat) : Int)], .int .i64 (oErr l : Int)]) ∧ OwnT w' w.heap.size sA sc ss nA nc ns ∧ Below w.heap.size w w' ∧
    (oErr l = 0 → ss.map plS = (opn ((bodyOf l).drop 3)).1 ∧ ns.map plN = (opn ((bodyOf l).drop 3)).2.1 ∧ cur = curOf (opn ((bodyOf l).drop 3)).2.1) ∧ (oErr l ≠ 0 → ss = [] ∧ ns = [] ∧ cur = 0) := by
  unfold OpEnd at h
  split at h
  · rename_i h0
    obtain ⟨sA, sc, ss, nA, nc, ns, rfl, hO, h1, h2, hb⟩ := h
    exact ⟨sA, sc, ss, nA, nc, ns, _, by rw [h0], hO, hb, fun _ => ⟨h1, h2, rfl⟩, fun q => absurd h0 q⟩
  · rename_i h0
    obtain ⟨sA, sc, ss, nA, nc, ns, rfl, hO, h1, h2, hb⟩ := h
    exact ⟨sA, sc, ss, nA, nc, ns, 0, rfl, hO, hb, fun q => absurd q h0, fun _ => ⟨by simpa using h1, by simpa using h2, rfl⟩⟩
theorem oErr_rest {l : List UInt8} (h1 : (open_ l).isSome = true) (h2 : ¬ ((bodyOf l).length < 3 ∨ (bodyOf l).take 3 ≠ tf1)) : oErr l = 102 ∨ (oErr l = 0 ∧ rightP (opn ((bodyOf l).drop 3)).1 (opn ((bodyOf l).drop 3)).2.1 (curOf (opn ((bodyOf l).drop 3)).2.1) = true ∧ wrS (opn ((bodyOf l).drop 3)).1 (opn ((bodyOf l).drop 3)).2.1 = l) := by
  unfold oErr
  rw [if_neg (by rw [h1]; simp), if_neg h2]
  split
  · exact .inl rfl
  · rename_i q
    refine .inr ⟨rfl, ?_, ?_⟩
    · apply Decidable.of_not_not
      intro p
      exact q (.inr (.inl (by simpa using p)))
    · apply Decidable.of_not_not
      intro p
      exact q (.inr (.inr p))
theorem sameZero (w : World) (sA nA : Option Addr) (sc nc : Nat) (hT : TabR w w.heap.size sA sc [] nA nc []) :
    Calls Tryd.prog 18 #[.agg #[.slice sA 0 sc, .slice nA 0 nc, .int .u64 0], .agg #[.slice none 0 0, .slice none 0 0, .int .u64 0]] w (RetVal w (.bool true)) :=
  refSameT w sA none sc 0 [] [] nA none nc 0 [] [] 0 hT (OwnT.nil w w.heap.size).tab rfl rfl
theorem right_names {ss : List Ps} {ns : List Nl} {cur : Nat} (h : rightP ss (ns.map plN) cur = true) : ∀ s ∈ ns, ∀ m ∈ s.p.ms, m.size ≤ 9223372036854775807 := fun s hs m hm => by
  have := (names_at ((right_has h).2.2 (plN s) (List.mem_map_of_mem hs))).2 m hm
  omega
set_option maxRecDepth 100000 in
set_option maxHeartbeats 8000000 in
theorem metaOpensLaw (w : World) (ht : Table w) (A : Option Addr) (n c : Nat) (l : List UInt8) (hr : Rd w w.heap.size 1 A n c (bytesV l)) (sl : Bool) :
    Calls Tryd.prog 5 #[.slice A n c, .bool sl] w (RetVal w (.bool true)) := by
  obtain rfl : n = l.length := by have := hr.len; rw [bytesV_length] at this; omega
  have HT := hide ht
  have hpos := ht.pos
  clear ht
  have hcap : l.length ≤ 9223372036854775807 := by have h1 := hr.le; have h2 := hr.cap; unfold maxLen at h2; omega
  go_enter Tryd.func5, Tryd.ntmps5
  go_wp2_with fail
  refine (alive14 w).mono ?_
  rintro e w1 ⟨rfl, hb1⟩
  have hr1 := (hr.below hb1).more hb1.size
  clear hr
  by_cases hlt : 20000 < l.length
  · have t1 : decide ((20000 : Int) < (l.length : Int)) = true := decide_eq_true (by omega)
    clear hr1
    go_wp2_with fail
    go_ret
    exact ⟨rfl, hb1⟩
  have t1 : decide ((20000 : Int) < (l.length : Int)) = false := decide_eq_false (by omega)
  go_upto_if 16 with fail
  go_cut [0] from 16 to 18 (fun v wx => ∃ (A2 : Option Addr) (c2 : Nat) (l2 : List UInt8), v = .slice A2 l2.length c2 ∧ l2.length ≤ 30000 ∧ Rd wx wx.heap.size 1 A2 l2.length c2 (bytesV l2) ∧ Below w.heap.size w wx)
  case first =>
    cases sl with
    | true =>
      go_wp2_with fail
      refine (refSeal w1 _ _ c A l hr1 (Nat.le_refl _) (by omega)).mono ?_
      rintro e w2 ⟨v, rfl, hown, hb2⟩
      obtain ⟨A2, c2, rfl, hr2⟩ := Rd.of_own hown
      go_wp2_with fail
      go_meet
      exact ⟨A2, c2, seal_ l, rfl, by rw [seal_length]; omega, hr2, below_call hb1 hb1.size hb2⟩
    | false =>
      go_wp2_with fail
      go_meet
      exact ⟨A, c, l, rfl, by omega, hr1, hb1⟩
  case rest =>
  obtain ⟨A2, c2, l2, rfl, hl2, hr2, hb2⟩ := hcut
  clear hb1 hr1 t1 hlt
  go_wp2_with fail
  refine (metaOpen wc A2 c2 l2 hr2 (HT.out.below hb2 hpos) (by omega)).mono ?_
  intro e w3 hop
  obtain ⟨sA, sc, ss, nA, nc, ns, cur, rfl, O3, hb3, hz, hbad⟩ := opEnd_split hop
  obtain ⟨er, her⟩ : ∃ er, oErr l2 = er := ⟨_, rfl⟩
  rw [her]
  have HER := hide (And.intro her (And.intro hz hbad))
  have x4 := boxN_new w3 #[.slice sA ss.length sc, .slice nA ns.length nc, .int .u64 (cur : Int)] 26
  have hbA := (Below.refl w3.heap.size w3).alloc (Nat.le_refl _) (.cells #[.slice sA ss.length sc, .slice nA ns.length nc, .int .u64 (cur : Int)] 26)
  have O4 := O3.keep hbA
  have hb43 := below_call hb3 hb3.size hbA
  have hr4 := (hr2.below hb43).more hb43.size
  have hB4 := below_call hb2 hb2.size hb43
  clear hop her hz hbad O3 hb3 hbA hr2 hb43
  go_wp2_with fail
  generalize w3.alloc (.cells #[.slice sA ss.length sc, .slice nA ns.length nc, .int .u64 (cur : Int)] 26) = w4 at *
  generalize w3.heap.size = b4 at *
  refine (refOpen w4 _ c2 A2 l2 hr4 (by omega)).mono ?_
  rintro e w5 ⟨hb5, (⟨t, ho, rfl, hrt⟩ | ⟨ho, rfl⟩)⟩
  · have X5 := x4.keep hb5 x4.z
    have O5 := O4.keep hb5
    have hB5 := below_call hB4 hB4.size hb5
    have hr5 := (hr4.below hb5).more hb5.size
    have hrt5 := (hrt.below hb5).more hb5.size
    have k0 := X5.cell 0 _ rfl
    have k1 := X5.cell 1 _ rfl
    have k2 := X5.cell 2 _ rfl
    have HO := hide O5
    have HS : Hid ((open_ l2).isSome = true) := hide (by rw [ho]; rfl)
    have HB : Hid (bodyOf l2 = t) := hide (by unfold bodyOf; rw [ho]; rfl)
    clear x4 O4 hB4 hr4 hrt hb5 ho X5 O5
    have htl : t.length ≤ 9223372036854775807 := by have h1 := hrt5.le; have h2 := hrt5.cap; unfold maxLen at h2; omega
    by_cases h3 : t.length < 3
    · have t1 : decide ((t.length : Int) < 3) = true := decide_eq_true (by omega)
      have hE := (HER.out.1).symm.trans (oErr_magic HS.out (.inl (by rw [HB.out]; exact h3)))
      obtain ⟨rfl, rfl, rfl⟩ := HER.out.2.2 (by rw [HER.out.1, hE]; decide)
      obtain rfl := hE
      clear hr5 hrt5 h3
      go_wp2_with fail
      refine (sameZero w5 sA nA sc nc HO.out.tab).mono ?_
      rintro e w6 ⟨rfl, hb6⟩
      go_wp2_with fail
      go_ret
      exact ⟨rfl, below_call hB5 hB5.size hb6⟩
    have t1 : decide ((t.length : Int) < 3) = false := decide_eq_false (by omega)
    have hcap2 := hrt5.le
    have u1 := fun k W => run_cut_hi (P := Tryd.prog) tyBytes A2 t.length c2 k (3 : Int) 3 rfl (by omega) W
    have u2 := fun k W => cut_hi (P := Tryd.prog) tyBytes A2 t.length c2 k (3 : Int) 3 rfl (by omega) W
    have hpre : Rd w5 w5.heap.size 1 A2 3 c2 (bytesV (t.take 3)) := by
      have := hrt5.pre (hi := 3) (by omega)
      simpa [bytesV, List.map_take] using this
    have hstr := run_str (P := Tryd.prog) w5 Tryd.underlying34 Tryd.underlying5 Tryd.underlying9 hpre
    have H3 := hide h3
    clear hpre hrt5
    by_cases hq : t.take 3 ≠ tf1
    · have hE := (HER.out.1).symm.trans (oErr_magic HS.out (.inr (by rw [HB.out]; exact hq)))
      obtain ⟨rfl, rfl, rfl⟩ := HER.out.2.2 (by rw [HER.out.1, hE]; decide)
      obtain rfl := hE
      have hne := magic_ne hq
      generalize (⟨(t.take 3).toArray⟩ : ByteArray) = pre at *
      clear hr5 h3 hq hcap2
      go_wp2_with fail
      refine (sameZero w5 sA nA sc nc HO.out.tab).mono ?_
      rintro e w6 ⟨rfl, hb6⟩
      go_wp2_with fail
      go_ret
      exact ⟨rfl, below_call hB5 hB5.size hb6⟩
    have hq : t.take 3 = tf1 := Decidable.of_not_not hq
    have hpe : (⟨(t.take 3).toArray⟩ : ByteArray) = ⟨#[84, 70, 49]⟩ := by rw [hq]; rfl
    rw [hpe] at hstr
    have hrest := oErr_rest HS.out (by rw [HB.out]; rintro (q | q); exact h3 q; exact q hq)
    clear hpe h3 hq hcap2
    rcases hrest with hE | ⟨hE, hR, hW⟩
    · have hE := (HER.out.1).symm.trans hE
      obtain ⟨rfl, rfl, rfl⟩ := HER.out.2.2 (by rw [HER.out.1, hE]; decide)
      obtain rfl := hE
      clear hr5
      go_wp2_with fail
      refine (sameZero w5 sA nA sc nc HO.out.tab).mono ?_
      rintro e w6 ⟨rfl, hb6⟩
      go_wp2_with fail
      go_ret
      exact ⟨rfl, below_call hB5 hB5.size hb6⟩
    · obtain ⟨h1, h2, hc⟩ := HER.out.2.1 hE
      have hE := (HER.out.1).symm.trans hE
      rw [← h2] at hc
      rw [← h1, ← h2, ← hc] at hR
      rw [← h1, ← h2] at hW
      have HR := hide (And.intro hR hW)
      have hms := right_names hR
      clear h1 h2 hR hW hc HER
      obtain rfl := hE
      go_wp2_with fail
      refine (refWrite14 w5 sA sc ss nA nc ns cur HO.out.tab hms).mono ?_
      rintro e w6 (⟨_, v, rfl, hv, hb6⟩ | ⟨hrp, rfl, hb6⟩)
      · obtain ⟨A6, c6, rfl, hr6⟩ := Rd.of_own hv
        rw [HR.out.2] at hr6 ⊢
        have s1 := run_str (P := Tryd.prog) w6 Tryd.underlying34 Tryd.underlying5 Tryd.underlying9 hr6
        have s2 := run_str (P := Tryd.prog) w6 Tryd.underlying34 Tryd.underlying5 Tryd.underlying9 ((hr5.below hb6).more hb6.size)
        clear hv hr6 hr5
        go_wp2_with fail
        go_ret
        exact ⟨rfl, below_call hB5 hB5.size hb6⟩
      · rw [HR.out.1] at hrp
        cases hrp
  · have X5 := x4.keep hb5 x4.z
    have O5 := O4.keep hb5
    have hB5 := below_call hB4 hB4.size hb5
    have k0 := X5.cell 0 _ rfl
    have k1 := X5.cell 1 _ rfl
    have k2 := X5.cell 2 _ rfl
    have hE := (HER.out.1).symm.trans (oErr_sum (by rw [ho]; rfl))
    obtain ⟨rfl, rfl, rfl⟩ := HER.out.2.2 (by rw [HER.out.1, hE]; decide)
    obtain rfl := hE
    have HO := hide O5
    clear x4 O4 hB4 hr4 hb5 X5 O5
    go_wp2_with fail
    refine (sameZero w5 sA nA sc nc HO.out.tab).mono ?_
    rintro e w6 ⟨rfl, hb6⟩
    go_wp2_with fail
    go_ret
    exact ⟨rfl, below_call hB5 hB5.size hb6⟩
end Go.Proofs.YtlccpchlclpnaaaDoor
