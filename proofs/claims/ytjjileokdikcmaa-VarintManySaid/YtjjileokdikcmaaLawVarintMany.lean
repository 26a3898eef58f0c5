/- VarintMany: for every input the law returns true, and what was there is as it was. No condition. -/
import Derived.Test.YtjjileokdikcmaaRows
import Derived.Test.YtjjileokdikcmaaFrame
import Derived.Test.YtjjileokdikcmaaVarL
namespace Go.Proofs.Ytjjileokdikcmaa.varintMany
open Go.Proofs.Ytjjileokdikcmaa
open Go.ChangeShapes Go.WideShapes Go.ChangeAt Go.RowKit
open Go.ChangeMaps (open_string shut_string)

theorem own : ownKnob Try.prog.godebug = none := by kernel_rfl
theorem laidOut : laidOutB Try.prog = true := by kernel_rfl

/-- the bytes of numbers, one behind the other -/
def puts : List Nat → List UInt8
  | [] => []
  | n :: r => Var.put n ++ puts r
theorem puts_append (a b : List Nat) : puts (a ++ b) = puts a ++ puts b := by
  induction a with
  | nil => rfl
  | cons x a ih => simp only [List.cons_append, puts, ih, List.append_assoc]
theorem puts_len (a : List Nat) (h : ∀ x ∈ a, x < 18446744073709551616) : (puts a).length ≤ 10 * a.length := by
  induction a with
  | nil => simp [puts]
  | cons x a ih =>
    have h1 := Var.put_le10 (h x (by simp))
    have h2 := ih (fun y hy => h y (by simp [hy]))
    simp only [puts, List.length_append, List.length_cons]
    omega
theorem nat_list (zs : List Int) (h : ∀ z ∈ zs, 0 ≤ z) : zs = (zs.map Int.toNat).map fun x : Nat => (x : Int) := by
  induction zs with
  | nil => rfl
  | cons z zs ih =>
    have h1 := h z (by simp)
    have h2 := ih fun y hy => h y (by simp [hy])
    simp only [List.map_cons]
    rw [← h2]
    congr 1
    omega
set_option maxRecDepth 100000 in
set_option maxHeartbeats 1000000 in
theorem walk (w : World) (A : Option Addr) (n c : Nat) (zs : List Int) (hr : Rd w w.heap.size 1 A n c (zs.map (.int .u64))) (hz : ∀ z ∈ zs, 0 ≤ z ∧ z ≤ 18446744073709551615) :
    Calls Try.prog 7 #[.slice A n c] w (RetVal w (.bool true)) := by
  obtain ⟨l, rfl⟩ : ∃ l : List Nat, zs = l.map (fun x : Nat => (x : Int)) := ⟨zs.map Int.toNat, nat_list zs fun z h => (hz z h).1⟩
  have hl : ∀ x ∈ l, x < 18446744073709551616 := fun x hx => by have := hz x (List.mem_map.2 ⟨x, hx, rfl⟩); omega
  have hn : n = l.length := by have := hr.len; simpa using this.symm
  subst hn
  have hmax : l.length ≤ 9223372036854775807 := by have h1 := hr.le; have h2 := hr.cap; unfold maxLen at h2; omega
  obtain ⟨N, hN⟩ : ∃ N, N = min l.length 100 := ⟨_, rfl⟩
  have hN1 : N ≤ l.length := by omega
  have hN2 : N ≤ 100 := by omega
  have hN3 : ∀ k, k < N ↔ k < l.length ∧ k < 100 := by omega
  have HN := hide hN3
  have HL := hide hl
  clear hN hN3 hl hz
  go_enter Try.func7, Try.ntmps7
  go_wp2_with fail
  refine (aliveVar _).mono ?_
  rintro e w1 ⟨rfl, hb1⟩
  have hr1 := hr.below hb1
  go_wp2_with fail
  go_loopw [3, 4] (fun bv iv wr => ∃ k : Nat, k ≤ N ∧ iv = .int .i64 k ∧ wr.ownsRow w1.heap.size 5 1 bv (puts (l.take k)).length (bytesV (puts (l.take k))) ∧ Below w1.heap.size w1 wr) (fun _ iv _ => N - (intOf iv).toNat)
  case atStart => exact ⟨0, Nat.zero_le _, rfl, World.ownsRow_nil _ _ _ _, Below.refl _ _⟩
  case round =>
    obtain ⟨k, hk, rfl, hown, hbr⟩ := hrel
    by_cases hlt : k < N
    · have h1 := ((HN.out k).1 hlt).1
      have h2 := ((HN.out k).1 hlt).2
      obtain ⟨b, off, rfl, hbB, hc⟩ := hr1.cellAt (k := k) (by simpa using h1)
      obtain ⟨x, hx⟩ : ∃ x, x = l[k] := ⟨_, rfl⟩
      have hxl : x < 18446744073709551616 := by rw [hx]; exact HL.out _ (List.getElem_mem h1)
      have hc' : wr.cell? ⟨b, off + k, none⟩ = some (.int .u64 (x : Int)) := (hbr.cell (p := ⟨b, off + k, none⟩) (Nat.lt_of_lt_of_le hbB hb1.size)).trans (by rw [hc, hx]; simp)
      have hst := hide (show puts (l.take (k + 1)) = puts (l.take k) ++ Var.put x by rw [List.take_succ_eq_append_getElem h1, puts_append, ← hx]; simp [puts])
      have hlen := puts_len (l.take k) (fun y hy => HL.out y (List.mem_of_mem_take hy))
      have hlk : (l.take k).length = k := by rw [List.length_take]; omega
      have hx10 := Var.put_le10 hxl
      rw [hlk] at hlen
      have HX := hide hxl
      clear hc hx hxl hlk
      go_wp2_with fail
      refine (varPut _ _ (by omega) (by have := HX.out; omega)).mono ?_
      rintro e w2 ⟨v2, rfl, hown2, hb2⟩
      rw [Int.toNat_natCast] at hown2
      obtain ⟨A2, c2, rfl, hr2⟩ := Rd.of_own hown2
      have hown' := own_below hown hb2
      have hb2' := below_call hbr hbr.size hb2
      go_wp2_with (at_builtin; refine wpList_app _ tyBytes rfl _ _ rfl w1.heap.size _ _ _ rfl hown' w2.heap.size A2 _ c2 _ rfl hr2 (bytesV_one _) (by omega) hb2'.size ?_; intro v3 w3 hown3 hg3 _; have hb3 := below_app hb2' (Nat.le_refl _) hown' hg3 hb2'.size)
      rw [← bytesV_append] at hown3
      clear hown2 hr2 hown' hg3 hown
      go_wp2_with fail
      go_roundw
      case rel => exact ⟨k + 1, by omega, by go_num, by rw [hst.out, List.length_append]; exact hown3, hb3⟩
      case measure => simp [intOf]; omega
    · obtain rfl : k = N := by omega
      have hend := hide (show ¬ (k < l.length ∧ k < 100) from fun h => by have := (HN.out k).2 h; omega)
      obtain ⟨A0, c0, rfl, hr0⟩ := Rd.of_own hown
      have hb' := below_call hb1 hb1.size hbr
      have hrw := hr1.below' hbr hb1.size
      clear hown hr1 hr
      by_cases hkl : k < l.length
      · have hk100 : ¬ k < 100 := fun h => hend.out ⟨hkl, h⟩
        go_wp2_with fail
        go_loop [3, 5] (fun bv iv => ∃ (j : Nat) (A2 : Option Addr) (c2 M : Nat), j ≤ k ∧ iv = .int .i64 j ∧ bv = .slice A2 M c2 ∧ Rd wr wr.heap.size 1 A2 M c2 (bytesV (puts ((l.take k).drop j)))) (fun _ iv => k - (intOf iv).toNat)
        case atStart => exact ⟨0, A0, c0, _, Nat.zero_le _, rfl, rfl, hr0⟩
        case round =>
          obtain ⟨j, A2, c2, M, hj, rfl, rfl, hr2⟩ := hrel
          by_cases hlt : j < k
          · have h1 := ((HN.out j).1 hlt).1
            have h2 := ((HN.out j).1 hlt).2
            obtain ⟨b, off, rfl, hbB, hc⟩ := hrw.cellAt (k := j) (by simpa using h1)
            obtain ⟨x, hx⟩ : ∃ x, x = l[j] := ⟨_, rfl⟩
            have hxl : x < 18446744073709551616 := by rw [hx]; exact HL.out _ (List.getElem_mem h1)
            have hc' : wr.cell? ⟨b, off + j, none⟩ = some (.int .u64 (x : Int)) := by rw [hc, hx]; simp
            have hst : puts ((l.take k).drop j) = Var.put x ++ puts ((l.take k).drop (j + 1)) := by
              rw [List.drop_eq_getElem_cons (by rw [List.length_take]; omega), List.getElem_take, ← hx]; rfl
            obtain ⟨R, hR⟩ : ∃ R, R = puts ((l.take k).drop (j + 1)) := ⟨_, rfl⟩
            rw [← hR] at hst
            rw [hst] at hr2
            have hg := hide (Var.get_put hxl R)
            have hlen : M = (Var.put x).length + R.length := by have := hr2.len; rw [bytesV_length, List.length_append] at this; omega
            have hcut := hr2.cut (lo := (Var.put x).length) (hi := M) (by omega) (Nat.le_refl _)
            have e5 : ((bytesV (Var.put x ++ R)).drop ((Var.put x).length * 1)).take ((M - (Var.put x).length) * 1) = bytesV R := by
              rw [bytesV_append, Nat.mul_one, Nat.mul_one, ← bytesV_length (Var.put x), List.drop_left, bytesV_length]
              exact List.take_of_length_le (by rw [bytesV_length]; omega)
            rw [e5] at hcut
            have hle := hr2.le
            have hpm : (Var.put x).length ≤ M := by omega
            have hsl := cut_lo tyBytes A2 M c2 .i64 ((Var.put x).length : Int) (Var.put x).length rfl hpm hle
            have HST := hide hst
            have HR := hide hR
            have HLEN := hide hlen
            clear hc hx hxl hst hR hlen e5
            go_wp2_with fail
            refine (varGet wr _ _ c2 A2 _ hr2).mono ?_
            rintro e w10 ⟨rfl, rfl⟩
            rw [hg.out]
            go_wp2_with fail
            go_round
            case rel => exact ⟨j + 1, _, _, _, by omega, by go_num, rfl, by rw [← HR.out]; simpa using hcut⟩
            case measure => simp [intOf]; omega
          · obtain rfl : j = k := by omega
            have e7 : puts ((l.take j).drop j) = [] := by rw [List.drop_eq_nil_of_le (by rw [List.length_take]; omega)]; rfl
            obtain rfl : M = 0 := by have := hr2.len; rw [e7] at this; simpa [bytesV] using this.symm
            go_wp2_with fail
            go_ret
            exact ⟨rfl, hb'⟩
      · go_wp2_with fail
        go_loop [3, 5] (fun bv iv => ∃ (j : Nat) (A2 : Option Addr) (c2 M : Nat), j ≤ k ∧ iv = .int .i64 j ∧ bv = .slice A2 M c2 ∧ Rd wr wr.heap.size 1 A2 M c2 (bytesV (puts ((l.take k).drop j)))) (fun _ iv => k - (intOf iv).toNat)
        case atStart => exact ⟨0, A0, c0, _, Nat.zero_le _, rfl, rfl, hr0⟩
        case round =>
          obtain ⟨j, A2, c2, M, hj, rfl, rfl, hr2⟩ := hrel
          by_cases hlt : j < k
          · have h1 := ((HN.out j).1 hlt).1
            have h2 := ((HN.out j).1 hlt).2
            obtain ⟨b, off, rfl, hbB, hc⟩ := hrw.cellAt (k := j) (by simpa using h1)
            obtain ⟨x, hx⟩ : ∃ x, x = l[j] := ⟨_, rfl⟩
            have hxl : x < 18446744073709551616 := by rw [hx]; exact HL.out _ (List.getElem_mem h1)
            have hc' : wr.cell? ⟨b, off + j, none⟩ = some (.int .u64 (x : Int)) := by rw [hc, hx]; simp
            have hst : puts ((l.take k).drop j) = Var.put x ++ puts ((l.take k).drop (j + 1)) := by
              rw [List.drop_eq_getElem_cons (by rw [List.length_take]; omega), List.getElem_take, ← hx]; rfl
            obtain ⟨R, hR⟩ : ∃ R, R = puts ((l.take k).drop (j + 1)) := ⟨_, rfl⟩
            rw [← hR] at hst
            rw [hst] at hr2
            have hg := hide (Var.get_put hxl R)
            have hlen : M = (Var.put x).length + R.length := by have := hr2.len; rw [bytesV_length, List.length_append] at this; omega
            have hcut := hr2.cut (lo := (Var.put x).length) (hi := M) (by omega) (Nat.le_refl _)
            have e5 : ((bytesV (Var.put x ++ R)).drop ((Var.put x).length * 1)).take ((M - (Var.put x).length) * 1) = bytesV R := by
              rw [bytesV_append, Nat.mul_one, Nat.mul_one, ← bytesV_length (Var.put x), List.drop_left, bytesV_length]
              exact List.take_of_length_le (by rw [bytesV_length]; omega)
            rw [e5] at hcut
            have hle := hr2.le
            have hpm : (Var.put x).length ≤ M := by omega
            have hsl := cut_lo tyBytes A2 M c2 .i64 ((Var.put x).length : Int) (Var.put x).length rfl hpm hle
            have HST := hide hst
            have HR := hide hR
            have HLEN := hide hlen
            clear hc hx hxl hst hR hlen e5
            go_wp2_with fail
            refine (varGet wr _ _ c2 A2 _ hr2).mono ?_
            rintro e w10 ⟨rfl, rfl⟩
            rw [hg.out]
            go_wp2_with fail
            go_round
            case rel => exact ⟨j + 1, _, _, _, by omega, by go_num, rfl, by rw [← HR.out]; simpa using hcut⟩
            case measure => simp [intOf]; omega
          · obtain rfl : j = k := by omega
            have e7 : puts ((l.take j).drop j) = [] := by rw [List.drop_eq_nil_of_le (by rw [List.length_take]; omega)]; rfl
            obtain rfl : M = 0 := by have := hr2.len; rw [e7] at this; simpa [bytesV] using this.symm
            go_wp2_with fail
            go_ret
            exact ⟨rfl, hb'⟩

set_option maxRecDepth 100000 in
theorem lifted (os : Os) (started : os.Started) (H : Type) (enc : TypeId × Value → H) :
    ReturnsInHanded {} Try.checked os 7 .any (Rows.varintManySpec.pre6 enc Try.prog Try.f7 Rows.varintManyRow.domain false) (Rows.varintManySpec.post enc Try.prog Try.f7 false true false false) := by
  refine returnsInHanded_of_change (C := Try.checked) own started (by kernel_rfl) Try.func7
    (ChangeSpec.witness6 (enc := enc) (C := Try.checked) false ⟨#[], #[.slice none 0 0], []⟩ 8 (by kernel_rfl) (by kernel_rfl) (by kernel_rfl) (by kernel_rfl)) ?_
  intro W base args ds gs before hval0 hW hcnd _
  have hval : ∀ (j : Nat) t v, Try.f7.params[j]? = some t → args[j]? = some v → Value.okWide Try.prog W .any base t v := hval0
  have hW' := hW
  obtain ⟨p, q, hA0, hV, rfl, hfz, hnd⟩ := hW
  have hA : DataW.TrodAll enc Try.prog W 0 (fun _ => true) true Try.f7.params.toList args.toList ds p := hA0
  rw [Try.params7] at hA hval
  obtain ⟨v0, vs0, d0, ds0, p0, q0, hargs, rfl, rfl, h0, r0⟩ := trodAll_cons hA
  obtain ⟨rfl, rfl, rfl⟩ := trodAll_nil r0
  obtain rfl : args = #[v0] := by cases args; simp_all
  obtain ⟨rfl, rfl⟩ := trodVars_none hV
  have k0 := h0
  have lt0 : ∀ x ∈ p0, x.block < W.heap.size := by obtain ⟨m, hm⟩ := k0; exact DataW.trod_lt m _ _ _ hm
  obtain ⟨A0, n0, c0, l0, rfl, w0, g0, hr0⟩ := frame_ints Try.underlying30 Try.underlying22 (by kernel_rfl) (hval 0 30 v0 rfl rfl) h0
  clear hA0 hval0
  refine (walk W A0 n0 c0 l0 w0 (fun z hz => bounds_u64 (g0 z hz))).mono fun e W' ⟨he, bel⟩ => ?_
  subst he
  exact ⟨_, rfl, _, _, _, [], _, [], hW', trodAll_mk1 (shut_bool Try.underlying4 _), (trodAll_cons_mk (Below.trod laidOut (by kernel_rfl) (of_decide_eq_true (by kernel_rfl)) k0 bel lt0) trodAll_mk0), rfl, bel.frame _, fun h => by cases h⟩

theorem over : Rows.varintManyRow.holds Try.pinned (OpenSpec.ofChange Rows.varintManySpec) :=
  OpenClaim.holds_of_wide 7 Try.f7 rfl rfl rfl rfl rfl rfl rfl ⟨rfl, rfl, rfl, rfl, rfl⟩ rfl rfl rfl rfl rfl (by kernel_rfl) Try.func7 (by kernel_rfl)
    (of_decide_eq_true (by kernel_rfl)) (by unfold Func.isWrapper; first | (rw [if_pos (by decide +kernel)]; kernel_rfl) | (rw [if_neg (by decide +kernel)]; exact ⟨rfl, rfl⟩))
    (fun os started H enc _ => lifted os started H enc)

theorem proved : Rows.VarintManySaid := over
#print axioms proved
end Go.Proofs.Ytjjileokdikcmaa.varintMany
