/- ObjectOwn: for every input the law returns true, and what was there is as it was. No condition. -/
import Derived.Test.YtbgfmcmaklobaaaRows
import Derived.Test.YtbgfmcmaklobaaaObA
namespace Go.Proofs.Ytbgfmcmaklobaaa.objectOwn
open Go.Proofs.Ytbgfmcmaklobaaa
open Go.ChangeShapes Go.WideShapes Go.ChangeAt Go.RowKit
open Go.ChangeMaps (open_string shut_string)

theorem own : ownKnob Try.prog.godebug = none := by kernel_rfl
theorem laidOut : laidOutB Try.prog = true := by kernel_rfl

theorem bytesV_set (l : List UInt8) (k : Nat) (y : UInt8) : bytesV (l.set k y) = (bytesV l).set k (byteV y) := by simp [bytesV, List.map_set]
theorem own_ost {w w' : World} {sb mb base sz n : Nat} {e : TypeId} {v : Value} {xs : List Value} (h : w.ownsRow base e sz v n xs) (ho : Ost sb mb w w') (h1 : sb < base) (h2 : mb < base) : w'.ownsRow base e sz v n xs :=
  ⟨h.1, h.2.imp id fun ⟨g, cap, cur, hv, hb, hg, r⟩ => ⟨g, cap, cur, hv, hb, (ho.block g (Array.getElem?_eq_some_iff.1 hg).1 (by omega) (by omega)).trans hg, r⟩⟩
theorem StR_empty {P Q : Nat → Prop} {w : World} {sb mb N : Nat} {s : So} (h : StR P w sb mb N s) (hm : s.m = []) (h1 : ¬ Q sb) (h2 : ¬ Q mb) : StR Q w sb mb N s :=
  ⟨h.bx, by obtain ⟨D, hD⟩ := h.mp; exact ⟨D, hD.own, hD.has, fun r t ht => (by rw [hm] at ht; cases ht), h2⟩, h1, h.ne, h.ok⟩
def stA (l : List UInt8) : So := ⟨10000, l.length, [(nmA, ⟨l, true⟩)], ⟨#[]⟩, -1, -1, false⟩
theorem put_A {l : List UInt8} (h : l.length ≤ 5000) : (So.new 10000).put nmA l = (stA l, 0) := by
  have hp : pathOk nmA = true := by decide +kernel
  simp [So.put, So.new, hp, mhas, mget, So.change, So.add, mput, mdel, stA]
  rw [if_neg (by omega), if_neg (by omega)]
  rfl
theorem get_A (l : List UInt8) : (stA l).get nmA = (l, 0) := by
  have k1 : keyIs nmA (nmA, ⟨l, true⟩) = true := by unfold keyIs; exact beq_self_eq_true _
  simp [So.get, stA, mget, k1]
set_option maxRecDepth 100000 in
set_option maxHeartbeats 4000000 in
theorem walk (w : World) (A : Option Addr) (n c : Nat) (l : List UInt8) (hr : Rd w w.heap.size 1 A n c (bytesV l)) :
    Calls Try.prog 3 #[.slice A n c] w (RetVal w (.bool true)) := by
  obtain rfl : n = l.length := by have := hr.len; rw [bytesV_length] at this; omega
  by_cases h1 : l.length ≤ 5000
  · have t1 : decide ((5000 : Int) < (l.length : Int)) = false := by simp; omega
    go_enter Try.func3, Try.ntmps3
    go_wp2_with fail
    refine (alive12 _).mono ?_
    rintro e w1 ⟨rfl, hb1⟩
    go_wp2_with fail
    refine (objNew (fun _ => False) w1 10000 (by decide) (by decide) (fun k hk => hk.elim)).mono ?_
    rintro e w2 ⟨rfl, hS2, hB2, hz2⟩
    obtain ⟨sb, hsb⟩ : ∃ b, b = w1.heap.size + 1 := ⟨_, rfl⟩
    obtain ⟨mb, hmb⟩ : ∃ b, b = w1.heap.size := ⟨_, rfl⟩
    have hb2 := below_call hb1 hb1.size hB2
    have z1 : sb < w2.heap.size := by omega
    have z2 : mb < w2.heap.size := by omega
    have y1 : w.heap.size ≤ sb := by have := hb1.size; omega
    have y2 : w.heap.size ≤ mb := by have := hb1.size; omega
    rw [← hsb, ← hmb] at hS2
    rw [← hsb]
    clear hsb hmb hz2 hB2 hb1
    clear w1
    have hlit := own_lit w2 (base := w2.heap.size) 5 1 0 #[] (Nat.le_refl _) (by decide) rfl
    have k1' := ((hr.below hb2).more hb2.size).alloc (Nat.le_refl _) (.cells #[] 5)
    have hbL := (Below.refl w2.heap.size w2).alloc (Nat.le_refl _) (.cells #[] 5)
    have hbL0 := hb2.alloc hb2.size (.cells #[] 5)
    go_wp2_with (at_builtin; refine wpList_app _ tyBytes rfl (.tmp 17) (.tmp 18) rfl w2.heap.size _ 0 [] rfl hlit w2.heap.size A _ c _ rfl k1' (bytesV_one _) (by omega) (by simp) ?_; intro v3 w3 hown3 hg3 _; simp only [Nat.zero_add, List.nil_append] at hown3)
    have hB3 := below_app hbL (Nat.le_refl _) hlit hg3 hbL.size
    have hb3 := below_app hbL0 hb2.size hlit hg3 (Nat.le_trans hb2.size hbL.size)
    obtain ⟨A3, c3, rfl⟩ := own_slice hown3
    have hz3 := hB3.size
    have hS3 := (StR_empty hS2 (Q := fun k => w3.heap.size ≤ k) rfl (by omega) (by omega)).keep hB3
    have hr3 : RdP w3 (fun k => k ≠ sb ∧ k ≠ mb) A3 l.length c3 l := .own hown3 (fun k hk => ⟨by omega, by omega⟩)
    have HR := hide hr
    clear hlit k1' hbL hbL0 hg3 hS2 hr
    go_wp2_with fail
    refine (objPut _ w3 sb mb 0 _ hS3 (fun k hk => hk) (by decide) nmA (by decide) A3 c3 l hr3).mono ?_
    rintro e w4 hE
    rw [put_A h1] at hE
    obtain ⟨rfl, hS4, O4⟩ := hE
    have hown4 := own_ost hown3 O4 z1 z2
    have hb4 := hb3.trans (O4.below y1 y2 hb3.size)
    have hz4 := O4.size
    have HO3 := hide hown3
    have HB2 := hide hb2.size
    clear hS3 hown3 O4 hr3 hb3 hB3 hb2
    have hX : Hid (∀ g, A3 = some ⟨g, 0, none⟩ → g < w4.heap.size) := hide fun g hg => (hown4.lt g (by rw [hg]; rfl)).2
    have hX3 : Hid (∀ g, A3 = some ⟨g, 0, none⟩ → g < w3.heap.size) := hide fun g hg => (HO3.out.lt g (by rw [hg]; rfl)).2
    replace hS4 := hS4.mono (N2 := 1) (by omega)
    have HL := hide h1
    have hlmax : l.length ≤ 5000 := h1
    clear h1
    go_wp2_with fail
    go_loopw [5] (fun iv wr => ∃ (k : Nat) (L : List UInt8), k ≤ l.length ∧ iv = .int .i64 k ∧ L.length = l.length ∧ wr.ownsRow w2.heap.size 5 1 (.slice A3 l.length c3) l.length (bytesV L) ∧ StR (fun k => w3.heap.size ≤ k) wr sb mb 1 (stA l) ∧ Below w.heap.size w4 wr) (fun iv _ => l.length - (intOf iv).toNat)
    case atStart => exact ⟨0, l, Nat.zero_le _, rfl, rfl, hown4, hS4, Below.refl _ _⟩
    case round =>
      clear hown4 hS4
      obtain ⟨k, L, hk, rfl, hL, hown, hS, hbr⟩ := hrel
      by_cases hlt : k < l.length
      · obtain ⟨g5, cap5, hv5, hg5, _⟩ := hown.form (by omega)
        injection hv5 with q1 q2 q3
        subst q1 q3
        have hgx := hX3.out g5 rfl
        have hcell := hown.cellAt k (by omega)
        rw [bytesV_get _ k (by omega)] at hcell
        have hfz := hown.frozenAt k
        obtain ⟨x, hx⟩ : ∃ x, x = L[k] := ⟨_, rfl⟩
        have hcell' : wr.cell? ⟨g5, k, none⟩ = some (.int .u8 (x.toNat : Int)) := by rw [hcell, hx]; rfl
        obtain ⟨z, hz⟩ : ∃ z : UInt8, z = UInt8.ofNat (x.toNat + 1) := ⟨_, rfl⟩
        have hz2 : ((x.toNat : Int) + 1) % 256 = (z.toNat : Int) := by rw [hz, UInt8.toNat_ofNat']; omega
        have hb5 := hide (hbr.setCell (p := ⟨g5, k, none⟩) (show w.heap.size ≤ g5 by have := HB2.out; omega) (byteV z))
        have hS5 := hide (hS.else (p := ⟨g5, k, none⟩) (show g5 ≠ sb by omega) (show g5 ≠ mb by omega) (show ¬ w3.heap.size ≤ g5 by omega) (byteV z))
        have hown5 := (hown.stored k (byteV z)).1
        rw [← bytesV_set] at hown5
        have HOWN5 := hide hown5
        have hL2 : (L.set k z).length = l.length := by rw [List.length_set]; exact hL
        clear hcell hx hz hown hbr hown5 hS
        go_wp2_with fail
        go_roundw
        case rel => exact ⟨k + 1, L.set k z, by omega, by go_num, hL2, HOWN5.out, hS5.out, hb5.out⟩
        case measure => simp [intOf]; omega
      · clear hown hL
        go_wp2_with fail
        refine (objGet _ wr sb mb _ _ hS nmA (by decide) (len_quota hS.ok (by show (10000 : Int) ≤ _; decide))).mono ?_
        rintro e w5 hE
        rw [get_A] at hE
        obtain ⟨hb5, A5, c5, rfl, own5⟩ := hE
        have hsz := hbr.size
        have hS5 := (hS.imp (Q := fun k => w3.heap.size ≤ k ∧ k < wr.heap.size) (fun k h1 h2 => ⟨h1, h2⟩) (by omega) (by omega)).keep hb5
        have hbR := hb4.trans hbr
        have hB5 := below_call hbR hbR.size hb5
        have hzw := hbR.size
        clear hbr hbR hb4 hb5 hS
        generalize wr.heap.size = zr at *
        go_wp2_with fail
        go_loopw [8] (fun iv wq => ∃ (k : Nat) (L : List UInt8), k ≤ l.length ∧ iv = .int .i64 k ∧ L.length = l.length ∧ wq.ownsRow zr 5 1 (.slice A5 l.length c5) l.length (bytesV L) ∧ StR (fun k => w3.heap.size ≤ k ∧ k < zr) wq sb mb 1 (stA l) ∧ Below w.heap.size w wq) (fun iv _ => l.length - (intOf iv).toNat)
        case atStart => exact ⟨0, l, Nat.zero_le _, rfl, rfl, own5, hS5, hB5⟩
        case round =>
          clear own5 hS5 hB5
          obtain ⟨k, L, hk, rfl, hL, hown, hS, hbq⟩ := hrel
          by_cases hlt : k < l.length
          · obtain ⟨g5, cap5, hv5, hg5, _⟩ := hown.form (by omega)
            injection hv5 with q1 q2 q3
            subst q1 q3
            have hcell := hown.cellAt k (by omega)
            rw [bytesV_get _ k (by omega)] at hcell
            have hfz := hown.frozenAt k
            obtain ⟨x, hx⟩ : ∃ x, x = L[k] := ⟨_, rfl⟩
            have hcell' : wr.cell? ⟨g5, k, none⟩ = some (.int .u8 (x.toNat : Int)) := by rw [hcell, hx]; rfl
            obtain ⟨z, hz⟩ : ∃ z : UInt8, z = UInt8.ofNat (x.toNat + 255) := ⟨_, rfl⟩
            have hz2 : ((x.toNat : Int) - 1) % 256 = (z.toNat : Int) := by rw [hz, UInt8.toNat_ofNat']; omega
            have hb5 := hide (hbq.setCell (p := ⟨g5, k, none⟩) (show w.heap.size ≤ g5 by omega) (byteV z))
            have hS5 := hide (hS.else (p := ⟨g5, k, none⟩) (show g5 ≠ sb by omega) (show g5 ≠ mb by omega) (show ¬ (w3.heap.size ≤ g5 ∧ g5 < zr) by omega) (byteV z))
            have hown5 := (hown.stored k (byteV z)).1
            rw [← bytesV_set] at hown5
            have HOWN5 := hide hown5
            have hL2 : (L.set k z).length = l.length := by rw [List.length_set]; exact hL
            clear hcell hx hz hown hbq hown5 hS
            go_wp2_with fail
            go_roundw
            case rel => exact ⟨k + 1, L.set k z, by omega, by go_num, hL2, HOWN5.out, hS5.out, hb5.out⟩
            case measure => simp [intOf]; omega
          · clear hown hL
            go_wp2_with fail
            refine (objGet _ wr sb mb _ _ hS nmA (by decide) (len_quota hS.ok (by show (10000 : Int) ≤ _; decide))).mono ?_
            rintro e w6 hE
            rw [get_A] at hE
            obtain ⟨hb6, A6, c6, rfl, own6⟩ := hE
            have hB6 := below_call hbq hbq.size hb6
            have s1 := run_str (P := Try.prog) w6 Try.underlying22 Try.underlying5 Try.underlying9 (rd_own own6)
            have s2 := run_str (P := Try.prog) w6 Try.underlying22 Try.underlying5 Try.underlying9 (HR.out.below hB6)
            have t2 : ((⟨l.toArray⟩ : ByteArray).toList == (⟨l.toArray⟩ : ByteArray).toList) = true := beq_self_eq_true _
            clear hS hb6 hbq own6
            go_wp2_with fail
            go_ret
            exact ⟨rfl, hB6⟩
  · have t1 : decide ((5000 : Int) < (l.length : Int)) = true := by simp; omega
    clear h1
    go_enter Try.func3, Try.ntmps3
    go_wp2_with fail
    refine (alive12 _).mono ?_
    rintro e w1 ⟨rfl, hb1⟩
    go_wp2_with fail
    go_ret
    exact ⟨rfl, hb1⟩

set_option maxRecDepth 100000 in
theorem lifted (os : Os) (started : os.Started) (H : Type) (enc : TypeId × Value → H) :
    ReturnsInHanded {} Try.checked os 3 .any (Rows.objectOwnSpec.pre6 enc Try.prog Try.f3 Rows.objectOwnRow.domain false) (Rows.objectOwnSpec.post enc Try.prog Try.f3 false true false false) := by
  refine returnsInHanded_of_change (C := Try.checked) own started (by kernel_rfl) Try.func3
    (ChangeSpec.witness6 (enc := enc) (C := Try.checked) false ⟨#[], #[.slice none 0 0], []⟩ 8 (by kernel_rfl) (by kernel_rfl) (by kernel_rfl) (by kernel_rfl)) ?_
  intro W base args ds gs before hval0 hW hcnd _
  have hval : ∀ (j : Nat) t v, Try.f3.params[j]? = some t → args[j]? = some v → Value.okWide Try.prog W .any base t v := hval0
  have hW' := hW
  obtain ⟨p, q, hA0, hV, rfl, hfz, hnd⟩ := hW
  have hA : DataW.TrodAll enc Try.prog W 0 (fun _ => true) true Try.f3.params.toList args.toList ds p := hA0
  rw [Try.params3] at hA hval
  obtain ⟨v0, vs0, d0, ds0, p0, q0, hargs, rfl, rfl, h0, r0⟩ := trodAll_cons hA
  obtain ⟨rfl, rfl, rfl⟩ := trodAll_nil r0
  obtain rfl : args = #[v0] := by cases args; simp_all
  obtain ⟨rfl, rfl⟩ := trodVars_none hV
  have k0 := h0
  have lt0 : ∀ x ∈ p0, x.block < W.heap.size := by obtain ⟨m, hm⟩ := k0; exact DataW.trod_lt m _ _ _ hm
  obtain ⟨A0, n0, c0, l0, rfl, w0, hr0⟩ := frame_bytes Try.underlying22 Try.underlying5 (by kernel_rfl) (hval 0 22 v0 rfl rfl) h0
  clear hA0 hval0
  refine (walk W A0 n0 c0 l0 w0).mono fun e W' ⟨he, bel⟩ => ?_
  subst he
  exact ⟨_, rfl, _, _, _, [], _, [], hW', trodAll_mk1 (shut_bool Try.underlying4 _), (trodAll_cons_mk (Below.trod laidOut (by kernel_rfl) (of_decide_eq_true (by kernel_rfl)) k0 bel lt0) trodAll_mk0), rfl, bel.frame _, fun h => by cases h⟩

theorem over : Rows.objectOwnRow.holds Try.pinned (OpenSpec.ofChange Rows.objectOwnSpec) :=
  OpenClaim.holds_of_wide 3 Try.f3 rfl rfl rfl rfl rfl rfl rfl ⟨rfl, rfl, rfl, rfl, rfl⟩ rfl rfl rfl rfl rfl (by kernel_rfl) Try.func3 (by kernel_rfl)
    (of_decide_eq_true (by kernel_rfl)) (by unfold Func.isWrapper; first | (rw [if_pos (by decide +kernel)]; kernel_rfl) | (rw [if_neg (by decide +kernel)]; exact ⟨rfl, rfl⟩))
    (fun os started H enc _ => lifted os started H enc)

theorem proved : Rows.ObjectOwnSaid := over
#print axioms proved
end Go.Proofs.Ytbgfmcmaklobaaa.objectOwn
