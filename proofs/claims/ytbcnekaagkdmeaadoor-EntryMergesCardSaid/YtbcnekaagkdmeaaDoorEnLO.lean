/- THE WALK of the law EntryOpens, for other laws to call too. No condition but the table of sums. -/
import Derived.Test.YtbcnekaagkdmeaaDoorFrameE
namespace Go.Proofs.YtbcnekaagkdmeaaDoor
open Go.RowKit

theorem opE_rest {l t : List UInt8} (h : open_ l = some t) (h2 : ¬ (t.length < 3 ∨ t.take 3 ≠ mf1)) : opE l = (102, []) ∨ ((opE l).1 = 0 ∧ errE (opE l).2 = 0 ∧ wrES (opE l).2 = l) := by
  by_cases h3 : (ents t).2.2 = true
  · exact .inl (opE_bad h h2 h3)
  by_cases h4 : errE (ents t).1 = 0 ∧ wrES (ents t).1 = l
  · have := opE_good h h2 h3 h4
    rw [this]
    exact .inr ⟨rfl, h4.1, h4.2⟩
  · exact .inl (opE_other h h2 h3 h4)
theorem right_nm {l : List El} (h : errE (l.map El.p) = 0) : ∀ x ∈ l, x.p.name.size ≤ 9223372036854775807 := fun x hx => by
  unfold errE at h
  split at h
  · cases h
  split at h
  · rename_i _ hal
    have := path_le (right_hasE (allE_has hal x.p (List.mem_map_of_mem hx))).1
    omega
  · cases h
set_option maxRecDepth 100000 in
set_option maxHeartbeats 8000000 in
theorem entOpensLaw (w : World) (ht : Table w) (A : Option Addr) (n c : Nat) (l : List UInt8) (hr : Rd w w.heap.size 1 A n c (bytesV l)) (sl : Bool) :
    Calls Tryd.prog 5 #[.slice A n c, .bool sl] w (RetVal w (.bool true)) := by
  obtain rfl : n = l.length := by have := hr.len; rw [bytesV_length] at this; omega
  have HT := hide ht
  have hpos := ht.pos
  clear ht
  have hcap : l.length ≤ 9223372036854775807 := by have h1 := hr.le; have h2 := hr.cap; unfold maxLen at h2; omega
  go_enter Tryd.func5, Tryd.ntmps5
  go_wp2_with fail
  refine (alive13 w HT.out).mono ?_
  rintro e w1 ⟨rfl, hb1⟩
  have hr1 := (hr.below hb1).more hb1.size
  clear hr
  by_cases hlt : 20000 < l.length
  · have t1 : decide ((20000 : Int) < (l.length : Int)) = true := decide_eq_true (by omega)
    clear hr1
    go_wp2_with fail
    go_ret
    exact ⟨rfl, hb1⟩
  have t1 : decide ((20000 : Int) < (l.length : Int)) = false := decide_eq_false (by omega)
  go_upto_if 16 with fail
  go_cut [0] from 16 to 18 (fun v wx => ∃ (A2 : Option Addr) (c2 : Nat) (l2 : List UInt8), v = .slice A2 l2.length c2 ∧ l2.length ≤ 30000 ∧ Rd wx wx.heap.size 1 A2 l2.length c2 (bytesV l2) ∧ Below w.heap.size w wx)
  case first =>
    cases sl with
    | true =>
      go_wp2_with fail
      refine (refSeal w1 _ _ c A l hr1 (Nat.le_refl _) (by omega)).mono ?_
      rintro e w2 ⟨v, rfl, hown, hb2⟩
      obtain ⟨A2, c2, rfl, hr2⟩ := Rd.of_own hown
      go_wp2_with fail
      go_meet
      exact ⟨A2, c2, seal_ l, rfl, by unfold seal_; rw [List.length_append]; have : (le4 (Crc.crc l)).length = 4 := rfl; omega, hr2, below_call hb1 hb1.size hb2⟩
    | false =>
      go_wp2_with fail
      go_meet
      exact ⟨A, c, l, rfl, by omega, hr1, hb1⟩
  case rest =>
  obtain ⟨A2, c2, l2, rfl, hl2, hr2, hb2⟩ := hcut
  clear hb1 hr1 t1 hlt
  go_wp2_with fail
  refine (entOpen wc A2 c2 l2 hr2 (HT.out.below hb2 hpos) (by omega)).mono ?_
  rintro e w3 ⟨hb3, lA, lc, ls, rfl, hls, h64, hO3⟩
  obtain ⟨er, her⟩ : ∃ er, (opE l2).1 = er := ⟨_, rfl⟩
  rw [her]
  have HER := hide (And.intro her hls)
  have hr3 := (hr2.below hb3).more hb3.size
  have hB3 := below_call hb2 hb2.size hb3
  clear her hls hb3 hr2 hb2
  go_wp2_with fail
  refine (refOpen w3 _ c2 A2 l2 hr3 (by omega)).mono ?_
  rintro e w5 ⟨hb5, (⟨t, ho, rfl, hrt⟩ | ⟨ho, rfl⟩)⟩
  · have O5 := hO3.keep hb5
    have hB5 := below_call hB3 hB3.size hb5
    have hr5 := (hr3.below hb5).more hb5.size
    have hrt5 := (hrt.below hb5).more hb5.size
    have HO := hide O5
    have HOP := hide ho
    clear hO3 hB3 hr3 hrt hb5 ho O5
    have htl : t.length ≤ 9223372036854775807 := by have h1 := hrt5.le; have h2 := hrt5.cap; unfold maxLen at h2; omega
    by_cases h3 : t.length < 3
    · have t1 : decide ((t.length : Int) < 3) = true := decide_eq_true (by omega)
      have hE := opE_magic HOP.out (.inl h3)
      have hE1 : er = 100 := by rw [← HER.out.1, hE]
      have hE2 : ls = [] := by have := HER.out.2; rw [hE] at this; simpa using this
      subst hE1 hE2
      clear hr5 hrt5 h3
      go_wp2_with fail
      go_ret
      exact ⟨rfl, hB5⟩
    have t1 : decide ((t.length : Int) < 3) = false := decide_eq_false (by omega)
    have hcap2 := hrt5.le
    have u1 := fun k W => run_cut_hi (P := Tryd.prog) tyBytes A2 t.length c2 k (3 : Int) 3 rfl (by omega) W
    have u2 := fun k W => cut_hi (P := Tryd.prog) tyBytes A2 t.length c2 k (3 : Int) 3 rfl (by omega) W
    have hpre : Rd w5 w5.heap.size 1 A2 3 c2 (bytesV (t.take 3)) := by
      have := hrt5.pre (hi := 3) (by omega)
      simpa [bytesV, List.map_take] using this
    have hstr := run_str (P := Tryd.prog) w5 Tryd.underlying25 Tryd.underlying5 Tryd.underlying9 hpre
    have H3 := hide h3
    clear hpre hrt5
    by_cases hq : t.take 3 ≠ mf1
    · have hE := opE_magic HOP.out (.inr hq)
      have hE1 : er = 100 := by rw [← HER.out.1, hE]
      have hE2 : ls = [] := by have := HER.out.2; rw [hE] at this; simpa using this
      subst hE1 hE2
      have hne := magic_ne hq
      generalize (⟨(t.take 3).toArray⟩ : ByteArray) = pre at *
      clear hr5 h3 hq hcap2
      go_wp2_with fail
      go_ret
      exact ⟨rfl, hB5⟩
    have hq : t.take 3 = mf1 := Decidable.of_not_not hq
    have hpe : (⟨(t.take 3).toArray⟩ : ByteArray) = ⟨#[77, 70, 49]⟩ := by rw [hq]; rfl
    rw [hpe] at hstr
    rcases opE_rest HOP.out (by rintro (q | q); exact H3.out q; exact q hq) with hE | ⟨hE0, hEr, hEw⟩
    · have hE1 : er = 102 := by rw [← HER.out.1, hE]
      have hE2 : ls = [] := by have := HER.out.2; rw [hE] at this; simpa using this
      subst hE1 hE2
      clear hr5 hq hpe hE h3 hcap2
      go_wp2_with fail
      go_ret
      exact ⟨rfl, hB5⟩
    · obtain rfl : er = 0 := by rw [← HER.out.1]; exact hE0
      rw [← HER.out.2] at hEr hEw
      have hnm := right_nm hEr
      clear hq hpe h3 hcap2 hE0
      go_wp2_with fail
      refine (refWrite13 w5 lA lc ls HO.out.rd hnm).mono ?_
      rintro e w6 ⟨hb6, (⟨_, v6, rfl, hown6⟩ | ⟨hbad, rfl⟩)⟩
      · rw [hEw] at hown6
        obtain ⟨A6, c6, rfl⟩ := own_slice hown6
        have hr6 := rd_own hown6
        have hr56 := (hr5.below hb6).more hb6.size
        have hB6 := below_call hB5 hB5.size hb6
        have s1 := run_str (P := Tryd.prog) w6 Tryd.underlying25 Tryd.underlying5 Tryd.underlying9 hr6
        have s2 := run_str (P := Tryd.prog) w6 Tryd.underlying25 Tryd.underlying5 Tryd.underlying9 hr56
        clear hown6 hr6 hr56 hr5 u1 u2 hstr hEr hEw hnm
        go_wp2_with fail
        go_ret
        exact ⟨rfl, hB6⟩
      · exact absurd hEr hbad
  · have hB5 := below_call hB3 hB3.size hb5
    have hE := opE_none ho
    have hE1 : er = 101 := by rw [← HER.out.1, hE]
    have hE2 : ls = [] := by have := HER.out.2; rw [hE] at this; simpa using this
    subst hE1 hE2
    clear hO3 hr3 hE ho hb5 hB3
    go_wp2_with fail
    go_ret
    exact ⟨rfl, hB5⟩
end Go.Proofs.YtbcnekaagkdmeaaDoor
