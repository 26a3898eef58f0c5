/- THE WALK of the program's Fit. No statement of the seat is proved here; no condition. -/
import Derived.Test.YtlccpchlclpnaaaVal
namespace Go.Proofs.Ytlccpchlclpnaaa
open Go.RowKit

/-- the error of place i: of a row in a schema -/
def fitAt (l : List Fd) (r : List Vl) (i : Nat) : Nat :=
  match r.getD i default with
  | .none => if (l.getD i default).need then 82 else 0
  | v => if kindOf v ≠ (l.getD i default).kind.toNat then 10 else match v with | .text s => if 64 < s.size then 5 else 0 | _ => 0
theorem fitAt_10 {l : List Fd} {r : List Vl} {k : Nat} {f : Fd} {v : Vl} (hv : r.getD k default = v) (hf : l.getD k default = f) (hn : isNil v = false) (h : kindOf v ≠ f.kind.toNat) : fitAt l r k = 10 := by
  unfold fitAt; rw [hv, hf]
  cases v with
  | none => simp [isNil] at hn
  | _ => simp only [if_pos h]
theorem fitAt_0 {l : List Fd} {r : List Vl} {k : Nat} {f : Fd} {v : Vl} (hv : r.getD k default = v) (hf : l.getD k default = f) (hn : isNil v = false) (h : kindOf v = f.kind.toNat) (ht : ∀ s, v = .text s → ¬ 64 < s.size) : fitAt l r k = 0 := by
  unfold fitAt; rw [hv, hf]
  cases v with
  | none => simp [isNil] at hn
  | text s => simp only [if_neg (show ¬ kindOf (.text s) ≠ f.kind.toNat from fun q => q h), if_neg (ht s rfl)]
  | whole n => simp only [if_neg (show ¬ kindOf (.whole n) ≠ f.kind.toNat from fun q => q h)]
  | truth b => simp only [if_neg (show ¬ kindOf (.truth b) ≠ f.kind.toNat from fun q => q h)]
theorem fitAt_5 {l : List Fd} {r : List Vl} {k : Nat} {f : Fd} {s : ByteArray} (hv : r.getD k default = .text s) (hf : l.getD k default = f) (h : 3 = f.kind.toNat) (ht : 64 < s.size) : fitAt l r k = 5 := by
  unfold fitAt; rw [hv, hf]
  simp only [if_neg (show ¬ kindOf (.text s) ≠ f.kind.toNat from fun q => q h), if_pos ht]
def firstE (g : Nat → Nat) : Nat → Nat → Nat
  | 0, _ => 0
  | b + 1, i => if g i = 0 then firstE g b (i + 1) else g i
theorem firstE_at {g : Nat → Nat} {n k e : Nat} (hk : k < n) (h : g k = e) (he : e ≠ 0) : firstE g (n - k) k = e := by
  rw [show n - k = (n - (k + 1)) + 1 by omega]
  simp [firstE, h, he]
theorem firstE_next {g : Nat → Nat} {n k : Nat} (hk : k < n) (h : g k = 0) : firstE g (n - k) k = firstE g (n - (k + 1)) (k + 1) := by
  rw [show n - k = (n - (k + 1)) + 1 by omega]
  simp [firstE, h]
def fitErr (l : List Fd) (r : List Vl) : Nat := if r.length ≠ l.length then 1 else firstE (fitAt l r) l.length 0

set_option maxRecDepth 100000 in
set_option maxHeartbeats 2000000 in
theorem schFit (w : World) (id : UInt32) (n c : Nat) (A : Option Addr) (l : List Fd) (hr : Rd w w.heap.size 4 A n c (fdsV l)) (m d : Nat) (B : Option Addr) (r : List Vl) (hv : Rd w w.heap.size 1 B m d (vlsV r)) :
    Calls Try.prog 20 #[.agg #[.int .u32 (id.toNat : Int), .slice A n c], .slice B m d] w fun e w' => e = .returned (.int .i64 (fitErr l r : Int)) ∧ Below w.heap.size w w' := by
  obtain rfl := hr.lenF
  obtain rfl := hv.lenV
  have hmax : l.length ≤ 9223372036854775807 := by have h1 := hr.le; have h2 := hr.cap; unfold maxLen at h2; omega
  by_cases h0 : r.length = l.length
  · have e0 : fitErr l r = firstE (fitAt l r) l.length 0 := by unfold fitErr; rw [if_neg (by simpa using h0)]
    rw [e0]
    have t1 : ((r.length : Int) != (l.length : Int)) = false := by rw [h0]; simp
    clear e0
    go_enter Try.func20, Try.ntmps20
    go_wp2_with fail
    have x1 := box_new w #[.int .u32 (id.toNat : Int), .slice A l.length c] 25
    generalize hwa : w.alloc (.cells #[.int .u32 (id.toNat : Int), .slice A l.length c] 25) = w1 at *
    obtain ⟨cs, _, zs, hb1⟩ := x1.lift (Below.refl _ _)
    have hr1 := (hr.below hb1).more hb1.size
    have hv1 := (hv.below hb1).more hb1.size
    clear hwa cs x1
    go_loopw [18] (fun iv wr => ∃ k : Nat, k ≤ l.length ∧ iv = .int .i64 (k : Int) ∧ Hid (firstE (fitAt l r) (l.length - k) k = firstE (fitAt l r) l.length 0) ∧ Below w1.heap.size w1 wr) (fun iv _ => l.length - (intOf iv).toNat)
    case atStart => exact ⟨0, Nat.zero_le _, rfl, hide rfl, Below.refl _ _⟩
    case round =>
      obtain ⟨k, hk, rfl, hf, hbr⟩ := hrel
      by_cases hlt : k < l.length
      · obtain ⟨b, off, rfl, hb, f0, f1, f2, f3⟩ := (hr1.below hbr).fd hlt
        have hlt2 : k < r.length := by omega
        obtain ⟨rb, roff, rfl, hrb, v0⟩ := (hv1.below hbr).vl hlt2
        generalize hff : l.getD k default = f at *
        generalize hvv : r.getD k default = v at *
        have HF := hide hff
        have HV := hide hvv
        clear hff hvv
        have hrbw : rb < wr.heap.size := Nat.lt_of_lt_of_le hrb hbr.size
        have hrbn : rb ≠ wr.heap.size := Nat.ne_of_lt hrbw
        cases hvn : v with
        | none =>
          subst hvn
          simp only [vlV] at v0
          cases hnd : f.need with
          | true =>
            rw [hnd] at f3
            have he := hide (hf.out.symm.trans (firstE_at hlt (show fitAt l r k = 82 by unfold fitAt; rw [HV.out, HF.out]; simp only [hnd, if_true]) (by decide)))
            have HN := hide hnd
            clear hnd
            go_wp2_with fail
            go_ret
            exact ⟨by rw [he.out]; rfl, below_call hb1 (Nat.le_of_lt zs) (hbr.alloc hbr.size _)⟩
          | false =>
            rw [hnd] at f3
            have he := hide ((firstE_next hlt (show fitAt l r k = 0 by unfold fitAt; rw [HV.out, HF.out]; simp only [hnd, if_false, Bool.false_eq_true])).symm.trans hf.out)
            have HN := hide hnd
            clear hnd
            go_wp2_with fail
            go_roundw
            case rel => exact ⟨k + 1, hlt, by go_num, he, hbr.alloc hbr.size _⟩
            case measure => exact meas_sub k _ hlt
        | whole x =>
          subst hvn
          simp only [vlV] at v0
          have hts := ta_str (.whole x)
          simp only [vlV] at hts
          go_wp2_with fail
          obtain ⟨w2, hw2⟩ : ∃ w2, w2 = wr.alloc (.cells #[.int .u32 (f.id.toNat : Int), .string f.name, .int .u8 (f.kind.toNat : Int), .bool f.need] 96) := ⟨_, rfl⟩
          have xb := box_new wr #[.int .u32 (f.id.toNat : Int), .string f.name, .int .u8 (f.kind.toNat : Int), .bool f.need] 96
          rw [← hw2] at xb ⊢
          have d2 := xb.cell 2 _ rfl
          have zf : wr.heap.size < w2.drew.heap.size := by show wr.heap.size < w2.heap.size; have := xb.size; omega
          have v2 : w2.cell? ⟨rb, roff + k, none⟩ = some (.iface 2 (.int .i64 x)) := (xb.below.cell (p := ⟨rb, roff + k, none⟩) hrbw).trans v0
          have zv : rb < w2.drew.heap.size := Nat.lt_trans hrbw zf
          have hb2 : Below w1.heap.size w1 w2 := below_call hbr hbr.size xb.below
          obtain ⟨bf, hbf⟩ : ∃ bf, bf = wr.heap.size := ⟨_, rfl⟩
          rw [← hbf] at d2 zf ⊢
          clear hw2 xb hbf f0 f1 f2 f3 v0 hrbn hrbw
          have hkb : f.kind.toNat < 256 := f.kind.toNat_lt
          obtain ⟨kn, hkn⟩ : ∃ kn, kn = f.kind.toNat := ⟨_, rfl⟩
          have d2' : w2.cell? ⟨bf, 2, none⟩ = some (.int .u8 (kn : Int)) := by rw [hkn]; exact d2
          have HKN := hide hkn
          clear d2 hkn
          refine wp_region_abs ext_grow (by kernel_rfl) (by kernel_rfl) ?_
          simp only [List.map_cons, List.map_nil]
          refine wpA_value ext_grow ?_ (fun _ _ h => by cases h) rfl rfl ?_ ?_
          rotate_left 1
          · intro w' hw' C hC
            go_simp
            try go_bits
            exact hC
          simp only [putS, List.set_cons_succ, List.set_cons_zero]
          refine wpA_value ext_grow ?_ (fun _ _ h => by cases h) rfl rfl ?_ ?_
          rotate_left 1
          · intro w' hw' C hC
            go_simp
            try go_bits
            exact hC
          simp only [putS, List.set_cons_succ, List.set_cons_zero]
          refine wpA_value ext_grow ?_ (fun _ _ h => by cases h) rfl rfl ?_ ?_
          rotate_left 1
          · intro w' hw' C hC
            have q := hlt2
            go_simp
            try go_bits
            exact hC
          simp only [putS, List.set_cons_succ, List.set_cons_zero]
          refine wpA_value ext_grow ?_ (fun _ _ h => by cases h) rfl rfl ?_ ?_
          rotate_left 1
          · intro w' hw' C hC
            have q := (hw'.cell (p := ⟨rb, roff + k, none⟩) zv).trans v2
            go_simp
            try go_bits
            exact hC
          simp only [putS, List.set_cons_succ, List.set_cons_zero]
          refine wpA_known (.is (.int .u8 (1 : Int))) (fun _ _ h => by cases h) rfl rfl (mono_is _) (fun w' hw' => ?_) ?_
          · go_simp
            exact ⟨Below.refl _ _, (kindOfW w' (.whole x)).mono fun e w'' h => is_ret h.1 (h.2 ▸ Below.refl _ _)⟩
          simp only [putS, List.set_cons_succ, List.set_cons_zero]
          refine wpA_value ext_grow ?_ (fun _ _ h => by cases h) rfl rfl ?_ ?_
          rotate_left 1
          · intro w' hw' C hC
            go_simp
            try go_bits
            exact hC
          simp only [putS, List.set_cons_succ, List.set_cons_zero]
          refine wpA_value ext_grow ?_ (fun _ _ h => by cases h) rfl rfl ?_ ?_
          rotate_left 1
          · intro w' hw' C hC
            have q := (hw'.cell (p := ⟨bf, 2, none⟩) zf).trans d2'
            go_simp
            try go_bits
            exact hC
          simp only [putS, List.set_cons_succ, List.set_cons_zero]
          refine wpA_value ext_grow ?_ (fun _ _ h => by cases h) rfl rfl ?_ ?_
          rotate_left 1
          · intro w' hw' C hC
            go_simp
            try go_bits
            exact hC
          simp only [putS, List.set_cons_succ, List.set_cons_zero]
          intro w4 hw4
          simp only [openS]
          have hb4 : Below w1.heap.size w1 w4 := hb2.trans (below_of_drew hw4 |>.mono hb2.size)
          have v4 := (hw4.cell (p := ⟨rb, roff + k, none⟩) zv).trans v2
          clear hw4 hb2 v2 d2' zf zv
          by_cases hkk : 1 ≠ kn
          · have s1 : ((1 : Int) != (kn : Int)) = true := by rw [bne_iff_ne]; omega
            have he := hide (hf.out.symm.trans (firstE_at hlt (fitAt_10 HV.out HF.out rfl (by rw [← HKN.out]; exact hkk)) (by decide)))
            clear hkk
            go_wp2_with fail
            go_ret
            exact ⟨by rw [he.out]; rfl, below_call hb1 (Nat.le_of_lt zs) hb4⟩
          · have s1 : ((1 : Int) != (kn : Int)) = false := by rw [bne_eq_false_iff_eq]; omega
            have he := hide ((firstE_next hlt (fitAt_0 HV.out HF.out rfl (by rw [← HKN.out]; exact Decidable.not_not.1 hkk) (fun s h => by cases h))).symm.trans hf.out)
            clear hkk
            go_wp2_with fail
            go_roundw
            case rel => exact ⟨k + 1, hlt, by go_num, he, hb4⟩
            case measure => exact meas_sub k _ hlt
        | truth x =>
          subst hvn
          simp only [vlV] at v0
          have hts := ta_str (.truth x)
          simp only [vlV] at hts
          go_wp2_with fail
          obtain ⟨w2, hw2⟩ : ∃ w2, w2 = wr.alloc (.cells #[.int .u32 (f.id.toNat : Int), .string f.name, .int .u8 (f.kind.toNat : Int), .bool f.need] 96) := ⟨_, rfl⟩
          have xb := box_new wr #[.int .u32 (f.id.toNat : Int), .string f.name, .int .u8 (f.kind.toNat : Int), .bool f.need] 96
          rw [← hw2] at xb ⊢
          have d2 := xb.cell 2 _ rfl
          have zf : wr.heap.size < w2.drew.heap.size := by show wr.heap.size < w2.heap.size; have := xb.size; omega
          have v2 : w2.cell? ⟨rb, roff + k, none⟩ = some (.iface 4 (.bool x)) := (xb.below.cell (p := ⟨rb, roff + k, none⟩) hrbw).trans v0
          have zv : rb < w2.drew.heap.size := Nat.lt_trans hrbw zf
          have hb2 : Below w1.heap.size w1 w2 := below_call hbr hbr.size xb.below
          obtain ⟨bf, hbf⟩ : ∃ bf, bf = wr.heap.size := ⟨_, rfl⟩
          rw [← hbf] at d2 zf ⊢
          clear hw2 xb hbf f0 f1 f2 f3 v0 hrbn hrbw
          have hkb : f.kind.toNat < 256 := f.kind.toNat_lt
          obtain ⟨kn, hkn⟩ : ∃ kn, kn = f.kind.toNat := ⟨_, rfl⟩
          have d2' : w2.cell? ⟨bf, 2, none⟩ = some (.int .u8 (kn : Int)) := by rw [hkn]; exact d2
          have HKN := hide hkn
          clear d2 hkn
          refine wp_region_abs ext_grow (by kernel_rfl) (by kernel_rfl) ?_
          simp only [List.map_cons, List.map_nil]
          refine wpA_value ext_grow ?_ (fun _ _ h => by cases h) rfl rfl ?_ ?_
          rotate_left 1
          · intro w' hw' C hC
            go_simp
            try go_bits
            exact hC
          simp only [putS, List.set_cons_succ, List.set_cons_zero]
          refine wpA_value ext_grow ?_ (fun _ _ h => by cases h) rfl rfl ?_ ?_
          rotate_left 1
          · intro w' hw' C hC
            go_simp
            try go_bits
            exact hC
          simp only [putS, List.set_cons_succ, List.set_cons_zero]
          refine wpA_value ext_grow ?_ (fun _ _ h => by cases h) rfl rfl ?_ ?_
          rotate_left 1
          · intro w' hw' C hC
            have q := hlt2
            go_simp
            try go_bits
            exact hC
          simp only [putS, List.set_cons_succ, List.set_cons_zero]
          refine wpA_value ext_grow ?_ (fun _ _ h => by cases h) rfl rfl ?_ ?_
          rotate_left 1
          · intro w' hw' C hC
            have q := (hw'.cell (p := ⟨rb, roff + k, none⟩) zv).trans v2
            go_simp
            try go_bits
            exact hC
          simp only [putS, List.set_cons_succ, List.set_cons_zero]
          refine wpA_known (.is (.int .u8 (2 : Int))) (fun _ _ h => by cases h) rfl rfl (mono_is _) (fun w' hw' => ?_) ?_
          · go_simp
            exact ⟨Below.refl _ _, (kindOfW w' (.truth x)).mono fun e w'' h => is_ret h.1 (h.2 ▸ Below.refl _ _)⟩
          simp only [putS, List.set_cons_succ, List.set_cons_zero]
          refine wpA_value ext_grow ?_ (fun _ _ h => by cases h) rfl rfl ?_ ?_
          rotate_left 1
          · intro w' hw' C hC
            go_simp
            try go_bits
            exact hC
          simp only [putS, List.set_cons_succ, List.set_cons_zero]
          refine wpA_value ext_grow ?_ (fun _ _ h => by cases h) rfl rfl ?_ ?_
          rotate_left 1
          · intro w' hw' C hC
            have q := (hw'.cell (p := ⟨bf, 2, none⟩) zf).trans d2'
            go_simp
            try go_bits
            exact hC
          simp only [putS, List.set_cons_succ, List.set_cons_zero]
          refine wpA_value ext_grow ?_ (fun _ _ h => by cases h) rfl rfl ?_ ?_
          rotate_left 1
          · intro w' hw' C hC
            go_simp
            try go_bits
            exact hC
          simp only [putS, List.set_cons_succ, List.set_cons_zero]
          intro w4 hw4
          simp only [openS]
          have hb4 : Below w1.heap.size w1 w4 := hb2.trans (below_of_drew hw4 |>.mono hb2.size)
          have v4 := (hw4.cell (p := ⟨rb, roff + k, none⟩) zv).trans v2
          clear hw4 hb2 v2 d2' zf zv
          by_cases hkk : 2 ≠ kn
          · have s1 : ((2 : Int) != (kn : Int)) = true := by rw [bne_iff_ne]; omega
            have he := hide (hf.out.symm.trans (firstE_at hlt (fitAt_10 HV.out HF.out rfl (by rw [← HKN.out]; exact hkk)) (by decide)))
            clear hkk
            go_wp2_with fail
            go_ret
            exact ⟨by rw [he.out]; rfl, below_call hb1 (Nat.le_of_lt zs) hb4⟩
          · have s1 : ((2 : Int) != (kn : Int)) = false := by rw [bne_eq_false_iff_eq]; omega
            have he := hide ((firstE_next hlt (fitAt_0 HV.out HF.out rfl (by rw [← HKN.out]; exact Decidable.not_not.1 hkk) (fun s h => by cases h))).symm.trans hf.out)
            clear hkk
            go_wp2_with fail
            go_roundw
            case rel => exact ⟨k + 1, hlt, by go_num, he, hb4⟩
            case measure => exact meas_sub k _ hlt
        | text x =>
          subst hvn
          simp only [vlV] at v0
          have hts := ta_str (.text x)
          simp only [vlV] at hts
          go_wp2_with fail
          obtain ⟨w2, hw2⟩ : ∃ w2, w2 = wr.alloc (.cells #[.int .u32 (f.id.toNat : Int), .string f.name, .int .u8 (f.kind.toNat : Int), .bool f.need] 96) := ⟨_, rfl⟩
          have xb := box_new wr #[.int .u32 (f.id.toNat : Int), .string f.name, .int .u8 (f.kind.toNat : Int), .bool f.need] 96
          rw [← hw2] at xb ⊢
          have d2 := xb.cell 2 _ rfl
          have zf : wr.heap.size < w2.drew.heap.size := by show wr.heap.size < w2.heap.size; have := xb.size; omega
          have v2 : w2.cell? ⟨rb, roff + k, none⟩ = some (.iface 9 (.string x)) := (xb.below.cell (p := ⟨rb, roff + k, none⟩) hrbw).trans v0
          have zv : rb < w2.drew.heap.size := Nat.lt_trans hrbw zf
          have hb2 : Below w1.heap.size w1 w2 := below_call hbr hbr.size xb.below
          obtain ⟨bf, hbf⟩ : ∃ bf, bf = wr.heap.size := ⟨_, rfl⟩
          rw [← hbf] at d2 zf ⊢
          clear hw2 xb hbf f0 f1 f2 f3 v0 hrbn hrbw
          have hkb : f.kind.toNat < 256 := f.kind.toNat_lt
          obtain ⟨kn, hkn⟩ : ∃ kn, kn = f.kind.toNat := ⟨_, rfl⟩
          have d2' : w2.cell? ⟨bf, 2, none⟩ = some (.int .u8 (kn : Int)) := by rw [hkn]; exact d2
          have HKN := hide hkn
          clear d2 hkn
          refine wp_region_abs ext_grow (by kernel_rfl) (by kernel_rfl) ?_
          simp only [List.map_cons, List.map_nil]
          refine wpA_value ext_grow ?_ (fun _ _ h => by cases h) rfl rfl ?_ ?_
          rotate_left 1
          · intro w' hw' C hC
            go_simp
            try go_bits
            exact hC
          simp only [putS, List.set_cons_succ, List.set_cons_zero]
          refine wpA_value ext_grow ?_ (fun _ _ h => by cases h) rfl rfl ?_ ?_
          rotate_left 1
          · intro w' hw' C hC
            go_simp
            try go_bits
            exact hC
          simp only [putS, List.set_cons_succ, List.set_cons_zero]
          refine wpA_value ext_grow ?_ (fun _ _ h => by cases h) rfl rfl ?_ ?_
          rotate_left 1
          · intro w' hw' C hC
            have q := hlt2
            go_simp
            try go_bits
            exact hC
          simp only [putS, List.set_cons_succ, List.set_cons_zero]
          refine wpA_value ext_grow ?_ (fun _ _ h => by cases h) rfl rfl ?_ ?_
          rotate_left 1
          · intro w' hw' C hC
            have q := (hw'.cell (p := ⟨rb, roff + k, none⟩) zv).trans v2
            go_simp
            try go_bits
            exact hC
          simp only [putS, List.set_cons_succ, List.set_cons_zero]
          refine wpA_known (.is (.int .u8 (3 : Int))) (fun _ _ h => by cases h) rfl rfl (mono_is _) (fun w' hw' => ?_) ?_
          · go_simp
            exact ⟨Below.refl _ _, (kindOfW w' (.text x)).mono fun e w'' h => is_ret h.1 (h.2 ▸ Below.refl _ _)⟩
          simp only [putS, List.set_cons_succ, List.set_cons_zero]
          refine wpA_value ext_grow ?_ (fun _ _ h => by cases h) rfl rfl ?_ ?_
          rotate_left 1
          · intro w' hw' C hC
            go_simp
            try go_bits
            exact hC
          simp only [putS, List.set_cons_succ, List.set_cons_zero]
          refine wpA_value ext_grow ?_ (fun _ _ h => by cases h) rfl rfl ?_ ?_
          rotate_left 1
          · intro w' hw' C hC
            have q := (hw'.cell (p := ⟨bf, 2, none⟩) zf).trans d2'
            go_simp
            try go_bits
            exact hC
          simp only [putS, List.set_cons_succ, List.set_cons_zero]
          refine wpA_value ext_grow ?_ (fun _ _ h => by cases h) rfl rfl ?_ ?_
          rotate_left 1
          · intro w' hw' C hC
            go_simp
            try go_bits
            exact hC
          simp only [putS, List.set_cons_succ, List.set_cons_zero]
          intro w4 hw4
          simp only [openS]
          have hb4 : Below w1.heap.size w1 w4 := hb2.trans (below_of_drew hw4 |>.mono hb2.size)
          have v4 := (hw4.cell (p := ⟨rb, roff + k, none⟩) zv).trans v2
          clear hw4 hb2 v2 d2' zf zv
          by_cases hkk : 3 ≠ kn
          · have s1 : ((3 : Int) != (kn : Int)) = true := by rw [bne_iff_ne]; omega
            have he := hide (hf.out.symm.trans (firstE_at hlt (fitAt_10 HV.out HF.out rfl (by rw [← HKN.out]; exact hkk)) (by decide)))
            clear hkk
            go_wp2_with fail
            go_ret
            exact ⟨by rw [he.out]; rfl, below_call hb1 (Nat.le_of_lt zs) hb4⟩
          · have s1 : ((3 : Int) != (kn : Int)) = false := by rw [bne_eq_false_iff_eq]; omega
            by_cases hlong : 64 < x.size
            · have s2 : decide ((64 : Int) < (x.size : Int)) = true := decide_eq_true (by omega)
              have he := hide (hf.out.symm.trans (firstE_at hlt (fitAt_5 HV.out HF.out (by rw [← HKN.out]; exact Decidable.not_not.1 hkk) hlong) (by decide)))
              clear hkk hlong
              go_wp2_with fail
              go_ret
              exact ⟨by rw [he.out]; rfl, below_call hb1 (Nat.le_of_lt zs) hb4⟩
            · have s2 : decide ((64 : Int) < (x.size : Int)) = false := decide_eq_false (by omega)
              have he := hide ((firstE_next hlt (fitAt_0 HV.out HF.out rfl (by rw [← HKN.out]; exact Decidable.not_not.1 hkk) (fun s h => by injection h with h; rw [← h]; exact hlong))).symm.trans hf.out)
              clear hkk hlong
              go_wp2_with fail
              go_roundw
              case rel => exact ⟨k + 1, hlt, by go_num, he, hb4⟩
              case measure => exact meas_sub k _ hlt
      · obtain rfl : k = l.length := by omega
        have he := hf.out
        rw [Nat.sub_self] at he
        have HE := hide he.symm
        clear he
        go_wp2_with fail
        go_ret
        exact ⟨by rw [HE.out]; rfl, below_call hb1 (Nat.le_of_lt zs) hbr⟩
  · have e0 : fitErr l r = 1 := by unfold fitErr; rw [if_pos h0]
    rw [e0]
    have t1 : ((r.length : Int) != (l.length : Int)) = true := by rw [bne_iff_ne]; omega
    clear h0 e0
    go_enter Try.func20, Try.ntmps20
    go_wp2_with fail
    go_ret
    exact ⟨rfl, (Below.refl _ _).alloc (Nat.le_refl _) _⟩
end Go.Proofs.Ytlccpchlclpnaaa
