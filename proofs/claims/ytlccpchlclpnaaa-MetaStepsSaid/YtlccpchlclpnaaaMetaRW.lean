/- THE WALK of meta's Right. No statement of the seat is proved here; no condition. -/
import Derived.Test.YtlccpchlclpnaaaMetaR
import Derived.Deep.CutRange
namespace Go.Proofs.Ytlccpchlclpnaaa
open Go.RowKit

def n15 (p f : Sn) : Bool := decide (p.id.toNat < f.id.toNat) && (decide (f.id.toNat ≤ 1073741824) && (decide (f.par.toNat < f.id.toNat) && decide (f.seq.toNat ≤ 1073741824 ∧ f.off.toNat ≤ 1073741824 ∧ f.tim.toNat ≤ 1073741824)))
def n17 (p f : Sn) : Bool := decide (p.seq.toNat ≤ f.seq.toNat) && (decide (p.off.toNat ≤ f.off.toNat) && (decide (p.tim.toNat ≤ f.tim.toNat) && decide (p.sch.toNat ≤ f.sch.toNat)))
theorem nOk_split (p f : Sn) (ss : List Ps) : (decide (p.id.toNat < f.id.toNat) && (decide (f.id.toNat ≤ 1073741824) && (decide (f.par.toNat < f.id.toNat) && (decide (f.seq.toNat ≤ 1073741824 ∧ f.off.toNat ≤ 1073741824 ∧ f.tim.toNat ≤ 1073741824) &&
    (decide (p.seq.toNat ≤ f.seq.toNat) && (decide (p.off.toNat ≤ f.off.toNat) && (decide (p.tim.toNat ≤ f.tim.toNat) && (decide (p.sch.toNat ≤ f.sch.toNat) && (namesOk f.ms && hasSch ss f.sch))))))))) = (n15 p f && (n17 p f && (namesOk f.ms && hasSch ss f.sch))) := by
  unfold n15 n17
  simp only [Bool.and_assoc]
set_option maxRecDepth 100000 in
set_option maxHeartbeats 8000000 in
theorem metaRight (w : World) (sA : Option Addr) (sc : Nat) (ss : List Sl) (nA : Option Addr) (nc : Nat) (ns : List Nl) (cur : Nat) (hT : TabR w w.heap.size sA sc ss nA nc ns) :
    Calls Try.prog 49 #[.agg #[.slice sA ss.length sc, .slice nA ns.length nc, .int .u64 (cur : Int)]] w fun e w' => e = .returned (.bool (rightP (ss.map plS) (ns.map plN) cur)) ∧ Below w.heap.size w w' := by
  obtain ⟨R, hR⟩ : ∃ R, R = rightP (ss.map plS) (ns.map plN) cur := ⟨_, rfl⟩
  rw [← hR]
  have HR := hide hR
  clear hR
  have hcap1 : ss.length ≤ 9223372036854775807 := by have h1 := hT.srow.le; have h2 := hT.srow.cap; unfold maxLen at h2; omega
  have hcap2 : ns.length ≤ 9223372036854775807 := by have h1 := hT.nrow.le; have h2 := hT.nrow.cap; unfold maxLen at h2; omega
  by_cases g : ss.length < 1
  · have HF : Hid (R = false) := hide (by rw [HR.out]; exact right_len (by simp only [List.length_map]; omega))
    have y1 : decide ((ss.length : Int) < 1) = true := decide_eq_true (by omega)
    clear g
    go_enter Try.func49, Try.ntmps49
    go_wp2_with fail
    go_ret
    exact ⟨by rw [HF.out]; rfl, (Below.refl _ _).alloc (Nat.le_refl _) _⟩
  have y1 : decide ((ss.length : Int) < 1) = false := decide_eq_false (by omega)
  have H1 := hide g
  clear g
  by_cases g : 16 < ss.length
  · have HF : Hid (R = false) := hide (by rw [HR.out]; exact right_len (by simp only [List.length_map]; omega))
    have y2 : decide ((16 : Int) < (ss.length : Int)) = true := decide_eq_true (by omega)
    clear g
    go_enter Try.func49, Try.ntmps49
    go_wp2_with fail
    go_ret
    exact ⟨by rw [HF.out]; rfl, (Below.refl _ _).alloc (Nat.le_refl _) _⟩
  have y2 : decide ((16 : Int) < (ss.length : Int)) = false := decide_eq_false (by omega)
  have H2 := hide g
  clear g
  by_cases g : 32 < ns.length
  · have HF : Hid (R = false) := hide (by rw [HR.out]; exact right_len (by simp only [List.length_map]; omega))
    have y3 : decide ((32 : Int) < (ns.length : Int)) = true := decide_eq_true (by omega)
    clear g
    go_enter Try.func49, Try.ntmps49
    go_wp2_with fail
    go_ret
    exact ⟨by rw [HF.out]; rfl, (Below.refl _ _).alloc (Nat.le_refl _) _⟩
  have y3 : decide ((32 : Int) < (ns.length : Int)) = false := decide_eq_false (by omega)
  have H3 := hide g
  clear g
  have HL : Hid (1 ≤ ss.length ∧ ss.length ≤ 16 ∧ ns.length ≤ 32) := hide (by have := H1.out; have := H2.out; have := H3.out; omega)
  clear H1 H2 H3
  go_enter Try.func49, Try.ntmps49
  go_wp2_with fail
  have x1 := boxN_new w #[.slice sA ss.length sc, .slice nA ns.length nc, .int .u64 (cur : Int)] 70
  have hb1 := (Below.refl w.heap.size w).alloc (Nat.le_refl _) (.cells #[.slice sA ss.length sc, .slice nA ns.length nc, .int .u64 (cur : Int)] 70)
  have hz1 : (w.alloc (.cells #[.slice sA ss.length sc, .slice nA ns.length nc, .int .u64 (cur : Int)] 70)).heap.size = w.heap.size + 1 := by simp
  generalize w.alloc (.cells #[.slice sA ss.length sc, .slice nA ns.length nc, .int .u64 (cur : Int)] 70) = w1 at *
  have x2 := boxN_new w1 #[.int .u32 0, .slice none 0 0] 25
  have hb2 := (Below.refl w1.heap.size w1).alloc (Nat.le_refl _) (.cells #[.int .u32 0, .slice none 0 0] 25)
  have x1b := x1.keep hb2 x1.z
  have hB2 := below_call hb1 hb1.size hb2
  generalize w1.alloc (.cells #[.int .u32 0, .slice none 0 0] 25) = w2 at *
  have hT2 := hT.below hB2
  rw [← hz1]
  have z12 : w.heap.size < w1.heap.size := by omega
  have z23 : w1.heap.size < w2.heap.size := x2.z
  generalize hb1e : w.heap.size = b1 at *
  generalize w1.heap.size = b3 at *
  have HB1 := hide hb1e
  clear hz1 hb1 hb2 x1 hT hb1e
  have c0 := x1b.cell 0 _ rfl
  have c1 := x1b.cell 1 _ rfl
  have c2 := x1b.cell 2 _ rfl
  clear y1 y2 y3
  go_loopw [30] (fun iv wr => ∃ (k : Nat) (wid : UInt32) (wA : Option Addr) (wc : Nat) (wfs : List Fd), iv = .int .i64 (k : Int) ∧ k ≤ ss.length ∧ BoxN wr b3 [.int .u32 (wid.toNat : Int), .slice wA wfs.length wc] ∧ Rd wr b1 4 wA wfs.length wc (fdsV wfs) ∧ Hid (wasP (ss.map plS) k = (wid, wfs)) ∧ Hid (∀ j, j < k → sOk (ss.map plS) j = true) ∧ Below b3 w2 wr) (fun iv _ => ss.length - (intOf iv).toNat)
  case atStart => exact ⟨0, 0, none, 0, [], rfl, Nat.zero_le _, x2, Rd.nil _ _ _, hide rfl, hide (fun j h => by omega), Below.refl _ _⟩
  case round =>
    obtain ⟨k, wid, wA, wc, wfs, rfl, hk, X, hwr, hwas, hall, hbr⟩ := hrel
    by_cases hlt : k < ss.length
    · have hTr := hT2.below (hbr.mono (Nat.le_of_lt z12))
      obtain ⟨b, off, rfl, hb, f0, f1⟩ := hTr.srow.sl hlt
      have hrd := hTr.s_at hlt
      have hge := plS_get ss k
      generalize hf : ss.getD k default = f at *
      have hso := sOk_eq hge hwas.out
      have HSO := hide hso
      have HGE := hide hge
      have hlm : k < (ss.map plS).length := by rw [List.length_map]; exact hlt
      have HLM := hide hlm
      clear hf hTr hge hso hlm
      have hbrz := hbr.size
      -- the box of the round
      have y := boxN_new wr #[.int .u32 (f.id.toNat : Int), .slice f.A f.fs.length f.c] 25
      have hbA := (Below.refl wr.heap.size wr).alloc (Nat.le_refl _) (.cells #[.int .u32 (f.id.toNat : Int), .slice f.A f.fs.length f.c] 25)
      have X5 := X.keep hbA X.z
      have hz5 : b3 < wr.heap.size := X.z
      have hrd5 := hrd.below' hbA (show b1 ≤ wr.heap.size by omega)
      have hwr5 := hwr.below' hbA (show b1 ≤ wr.heap.size by omega)
      have hB5 : Below b3 w2 _ := below_call hbr (Nat.le_of_lt hz5) hbA
      go_wp2_with fail
      generalize wr.alloc (.cells #[.int .u32 (f.id.toNat : Int), .slice f.A f.fs.length f.c] 25) = w5 at *
      generalize wr.heap.size = b5 at *
      have u0 := y.cell 0 _ rfl
      have u1 := y.cell 1 _ rfl
      have v0 := X5.cell 0 _ rfl
      have v1 := X5.cell 1 _ rfl
      have hz15 : b1 ≤ w5.heap.size := by have := y.z; omega
      have hrdc := hrd5.more hz15
      have zy : b5 < w5.heap.size := y.z
      have zx : b3 < w5.heap.size := X5.z
      have HXY := hide (And.intro X5 y)
      have HB5 := hide hB5
      clear f0 f1 hrd hwr X hbA hbr y X5 hB5
      by_cases g : check f.id f.fs ≠ 0
      · have HF : Hid (R = false) := hide (by rw [HR.out]; exact right_s HLM.out (by rw [HSO.out]; show (decide (check f.id f.fs = 0) && _) = false; rw [decide_eq_false g]; rfl))
        obtain ⟨ck, hck⟩ : ∃ ck, check f.id f.fs = ck := ⟨_, rfl⟩
        have HCKI : Hid ((check f.id f.fs : Int) = (ck : Int)) := hide (by rw [hck])
        rw [hck] at g
        have t1 : ((ck : Int) != 0) = true := by rw [bne_iff_ne]; omega
        clear hck
        clear g
        refine wp_region_abs ext_grow (by kernel_rfl) (by kernel_rfl) ?_
        simp only [List.map_cons, List.map_nil]
        refine wpA_value ext_grow ?_ (fun _ _ h => by cases h) rfl rfl ?_ ?_
        rotate_left 1
        · intro w' hw' C hC
          have q0 := (hw'.cell (p := ⟨b5, 0, none⟩) zy).trans u0
          have q1 := (hw'.cell (p := ⟨b5, 1, none⟩) zy).trans u1
          go_simp
          try go_bits
          exact hC
        simp only [putS, List.set_cons_succ, List.set_cons_zero]
        refine wpA_known (.is (.int .i64 (ck : Int))) (fun _ _ h => by cases h) rfl rfl (mono_is _) (fun w' hw' => ?_) ?_
        · go_simp
          exact ⟨Below.refl _ _, (schCheck w' f.id _ f.c f.A f.fs ((hrdc.keep fun p hp => hw'.cell hp).more hw'.size)).mono fun e w'' h => is_ret (by rw [h.1, HCKI.out]) h.2⟩
        simp only [putS, List.set_cons_succ, List.set_cons_zero]
        refine wpA_value ext_grow ?_ (fun _ _ h => by cases h) rfl rfl ?_ ?_
        rotate_left 1
        · intro w' hw' C hC
          go_simp
          try go_bits
          exact hC
        simp only [putS, List.set_cons_succ, List.set_cons_zero]
        refine wpA_value ext_grow ?_ (fun _ _ h => by cases h) rfl rfl ?_ ?_
        rotate_left 1
        · intro w' hw' C hC
          go_simp
          try go_bits
          exact hC
        simp only [putS, List.set_cons_succ, List.set_cons_zero]
        refine wpA_skip rfl rfl ?_
        simp only [putS, List.set_cons_succ, List.set_cons_zero]
        refine wpA_skip rfl rfl ?_
        simp only [putS, List.set_cons_succ, List.set_cons_zero]
        refine wpA_skip rfl rfl ?_
        simp only [putS, List.set_cons_succ, List.set_cons_zero]
        refine wpA_skip rfl rfl ?_
        simp only [putS, List.set_cons_succ, List.set_cons_zero]
        refine wpA_skip rfl rfl ?_
        simp only [putS, List.set_cons_succ, List.set_cons_zero]
        refine wpA_value ext_grow ?_ (fun _ _ h => by cases h) rfl rfl ?_ ?_
        rotate_left 1
        · intro w' hw' C hC
          go_simp
          try go_bits
          exact hC
        simp only [putS, List.set_cons_succ, List.set_cons_zero]
        refine wpA_value ext_grow ?_ (fun _ _ h => by cases h) rfl rfl ?_ ?_
        rotate_left 1
        · intro w' hw' C hC
          go_simp
          try go_bits
          exact hC
        simp only [putS, List.set_cons_succ, List.set_cons_zero]
        refine wpA_skip rfl rfl ?_
        simp only [putS, List.set_cons_succ, List.set_cons_zero]
        refine wpA_skip rfl rfl ?_
        simp only [putS, List.set_cons_succ, List.set_cons_zero]
        refine wpA_skip rfl rfl ?_
        simp only [putS, List.set_cons_succ, List.set_cons_zero]
        refine wpA_skip rfl rfl ?_
        simp only [putS, List.set_cons_succ, List.set_cons_zero]
        refine wpA_skip rfl rfl ?_
        simp only [putS, List.set_cons_succ, List.set_cons_zero]
        refine wpA_skip rfl rfl ?_
        simp only [putS, List.set_cons_succ, List.set_cons_zero]
        refine wpA_skip rfl rfl ?_
        simp only [putS, List.set_cons_succ, List.set_cons_zero]
        refine wpA_value ext_grow ?_ (fun _ _ h => by cases h) rfl rfl ?_ ?_
        rotate_left 1
        · intro w' hw' C hC
          go_simp
          try go_bits
          exact hC
        simp only [putS, List.set_cons_succ, List.set_cons_zero]
        refine wpA_value ext_grow ?_ (fun _ _ h => by cases h) rfl rfl ?_ ?_
        rotate_left 1
        · intro w' hw' C hC
          go_simp
          try go_bits
          exact hC
        simp only [putS, List.set_cons_succ, List.set_cons_zero]
        refine wpA_skip rfl rfl ?_
        simp only [putS, List.set_cons_succ, List.set_cons_zero]
        refine wpA_skip rfl rfl ?_
        simp only [putS, List.set_cons_succ, List.set_cons_zero]
        refine wpA_skip rfl rfl ?_
        simp only [putS, List.set_cons_succ, List.set_cons_zero]
        refine wpA_skip rfl rfl ?_
        simp only [putS, List.set_cons_succ, List.set_cons_zero]
        refine wpA_skip rfl rfl ?_
        simp only [putS, List.set_cons_succ, List.set_cons_zero]
        refine wpA_skip rfl rfl ?_
        simp only [putS, List.set_cons_succ, List.set_cons_zero]
        refine wpA_skip rfl rfl ?_
        simp only [putS, List.set_cons_succ, List.set_cons_zero]
        refine wpA_skip rfl rfl ?_
        simp only [putS, List.set_cons_succ, List.set_cons_zero]
        refine wpA_skip rfl rfl ?_
        simp only [putS, List.set_cons_succ, List.set_cons_zero]
        refine wpA_skip rfl rfl ?_
        simp only [putS, List.set_cons_succ, List.set_cons_zero]
        refine wpA_value ext_grow ?_ (fun _ _ h => by cases h) rfl rfl ?_ ?_
        rotate_left 1
        · intro w' hw' C hC
          go_simp
          try go_bits
          exact hC
        simp only [putS, List.set_cons_succ, List.set_cons_zero]
        intro w6 hw6
        simp only [openS]
        have hb6 := below_of_drew hw6
        go_wp2_with fail
        go_ret
        exact ⟨by rw [HF.out]; rfl, by rw [HB1.out]; exact (hB2.trans (HB5.out.mono (Nat.le_of_lt z12))).trans (hb6.mono hz15)⟩
      have HCK : Hid (check f.id f.fs = 0) := hide (by omega)
      have HCKI : Hid ((check f.id f.fs : Int) = 0) := hide (by rw [HCK.out]; rfl)
      have hf8 : f.fs.length ≤ 8 := (check_len HCK.out).2.2
      have hf1 : 1 ≤ f.id.toNat := (check_len HCK.out).1
      clear g
      by_cases g : f.id.toNat ≤ wid.toNat
      · have HF : Hid (R = false) := hide (by rw [HR.out]; exact right_s HLM.out (by rw [HSO.out]; show (_ && (decide (wid.toNat < f.id.toNat) && _)) = false; rw [decide_eq_false (show ¬ wid.toNat < f.id.toNat by omega)]; simp))
        have t2 : f.id.toNat ≤ wid.toNat := g
        clear g
        refine wp_region_abs ext_grow (by kernel_rfl) (by kernel_rfl) ?_
        simp only [List.map_cons, List.map_nil]
        refine wpA_value ext_grow ?_ (fun _ _ h => by cases h) rfl rfl ?_ ?_
        rotate_left 1
        · intro w' hw' C hC
          have q0 := (hw'.cell (p := ⟨b5, 0, none⟩) zy).trans u0
          have q1 := (hw'.cell (p := ⟨b5, 1, none⟩) zy).trans u1
          go_simp
          try go_bits
          exact hC
        simp only [putS, List.set_cons_succ, List.set_cons_zero]
        refine wpA_known (.is (.int .i64 0)) (fun _ _ h => by cases h) rfl rfl (mono_is _) (fun w' hw' => ?_) ?_
        · go_simp
          exact ⟨Below.refl _ _, (schCheck w' f.id _ f.c f.A f.fs ((hrdc.keep fun p hp => hw'.cell hp).more hw'.size)).mono fun e w'' h => is_ret (by rw [h.1, HCKI.out]) h.2⟩
        simp only [putS, List.set_cons_succ, List.set_cons_zero]
        refine wpA_value ext_grow ?_ (fun _ _ h => by cases h) rfl rfl ?_ ?_
        rotate_left 1
        · intro w' hw' C hC
          go_simp
          try go_bits
          exact hC
        simp only [putS, List.set_cons_succ, List.set_cons_zero]
        refine wpA_value ext_grow ?_ (fun _ _ h => by cases h) rfl rfl ?_ ?_
        rotate_left 1
        · intro w' hw' C hC
          go_simp
          try go_bits
          exact hC
        simp only [putS, List.set_cons_succ, List.set_cons_zero]
        refine wpA_value ext_grow ?_ (fun _ _ h => by cases h) rfl rfl ?_ ?_
        rotate_left 1
        · intro w' hw' C hC
          go_simp
          try go_bits
          exact hC
        simp only [putS, List.set_cons_succ, List.set_cons_zero]
        refine wpA_value ext_grow ?_ (fun _ _ h => by cases h) rfl rfl ?_ ?_
        rotate_left 1
        · intro w' hw' C hC
          have q0 := (hw'.cell (p := ⟨b5, 0, none⟩) zy).trans u0
          go_simp
          try go_bits
          exact hC
        simp only [putS, List.set_cons_succ, List.set_cons_zero]
        refine wpA_value ext_grow ?_ (fun _ _ h => by cases h) rfl rfl ?_ ?_
        rotate_left 1
        · intro w' hw' C hC
          go_simp
          try go_bits
          exact hC
        simp only [putS, List.set_cons_succ, List.set_cons_zero]
        refine wpA_value ext_grow ?_ (fun _ _ h => by cases h) rfl rfl ?_ ?_
        rotate_left 1
        · intro w' hw' C hC
          have q0 := (hw'.cell (p := ⟨b3, 0, none⟩) zx).trans v0
          go_simp
          try go_bits
          exact hC
        simp only [putS, List.set_cons_succ, List.set_cons_zero]
        refine wpA_value ext_grow ?_ (fun _ _ h => by cases h) rfl rfl ?_ ?_
        rotate_left 1
        · intro w' hw' C hC
          go_simp
          try go_bits
          exact hC
        simp only [putS, List.set_cons_succ, List.set_cons_zero]
        refine wpA_value ext_grow ?_ (fun _ _ h => by cases h) rfl rfl ?_ ?_
        rotate_left 1
        · intro w' hw' C hC
          go_simp
          try go_bits
          exact hC
        simp only [putS, List.set_cons_succ, List.set_cons_zero]
        refine wpA_value ext_grow ?_ (fun _ _ h => by cases h) rfl rfl ?_ ?_
        rotate_left 1
        · intro w' hw' C hC
          go_simp
          try go_bits
          exact hC
        simp only [putS, List.set_cons_succ, List.set_cons_zero]
        refine wpA_skip rfl rfl ?_
        simp only [putS, List.set_cons_succ, List.set_cons_zero]
        refine wpA_skip rfl rfl ?_
        simp only [putS, List.set_cons_succ, List.set_cons_zero]
        refine wpA_skip rfl rfl ?_
        simp only [putS, List.set_cons_succ, List.set_cons_zero]
        refine wpA_skip rfl rfl ?_
        simp only [putS, List.set_cons_succ, List.set_cons_zero]
        refine wpA_skip rfl rfl ?_
        simp only [putS, List.set_cons_succ, List.set_cons_zero]
        refine wpA_skip rfl rfl ?_
        simp only [putS, List.set_cons_succ, List.set_cons_zero]
        refine wpA_skip rfl rfl ?_
        simp only [putS, List.set_cons_succ, List.set_cons_zero]
        refine wpA_value ext_grow ?_ (fun _ _ h => by cases h) rfl rfl ?_ ?_
        rotate_left 1
        · intro w' hw' C hC
          go_simp
          try go_bits
          exact hC
        simp only [putS, List.set_cons_succ, List.set_cons_zero]
        refine wpA_value ext_grow ?_ (fun _ _ h => by cases h) rfl rfl ?_ ?_
        rotate_left 1
        · intro w' hw' C hC
          go_simp
          try go_bits
          exact hC
        simp only [putS, List.set_cons_succ, List.set_cons_zero]
        refine wpA_skip rfl rfl ?_
        simp only [putS, List.set_cons_succ, List.set_cons_zero]
        refine wpA_skip rfl rfl ?_
        simp only [putS, List.set_cons_succ, List.set_cons_zero]
        refine wpA_skip rfl rfl ?_
        simp only [putS, List.set_cons_succ, List.set_cons_zero]
        refine wpA_skip rfl rfl ?_
        simp only [putS, List.set_cons_succ, List.set_cons_zero]
        refine wpA_skip rfl rfl ?_
        simp only [putS, List.set_cons_succ, List.set_cons_zero]
        refine wpA_skip rfl rfl ?_
        simp only [putS, List.set_cons_succ, List.set_cons_zero]
        refine wpA_skip rfl rfl ?_
        simp only [putS, List.set_cons_succ, List.set_cons_zero]
        refine wpA_skip rfl rfl ?_
        simp only [putS, List.set_cons_succ, List.set_cons_zero]
        refine wpA_skip rfl rfl ?_
        simp only [putS, List.set_cons_succ, List.set_cons_zero]
        refine wpA_skip rfl rfl ?_
        simp only [putS, List.set_cons_succ, List.set_cons_zero]
        refine wpA_value ext_grow ?_ (fun _ _ h => by cases h) rfl rfl ?_ ?_
        rotate_left 1
        · intro w' hw' C hC
          go_simp
          try go_bits
          exact hC
        simp only [putS, List.set_cons_succ, List.set_cons_zero]
        intro w6 hw6
        simp only [openS]
        have hb6 := below_of_drew hw6
        go_wp2_with fail
        go_ret
        exact ⟨by rw [HF.out]; rfl, by rw [HB1.out]; exact (hB2.trans (HB5.out.mono (Nat.le_of_lt z12))).trans (hb6.mono hz15)⟩
      have t2 : ¬ f.id.toNat ≤ wid.toNat := g
      clear g
      by_cases g : f.fs.length < wfs.length
      · have HF : Hid (R = false) := hide (by rw [HR.out]; exact right_s HLM.out (by rw [HSO.out]; show (_ && (_ && (decide (wfs.length ≤ f.fs.length) && _))) = false; rw [decide_eq_false (show ¬ wfs.length ≤ f.fs.length by omega)]; simp))
        have t3 : f.fs.length < wfs.length := g
        clear g
        refine wp_region_abs ext_grow (by kernel_rfl) (by kernel_rfl) ?_
        simp only [List.map_cons, List.map_nil]
        refine wpA_value ext_grow ?_ (fun _ _ h => by cases h) rfl rfl ?_ ?_
        rotate_left 1
        · intro w' hw' C hC
          have q0 := (hw'.cell (p := ⟨b5, 0, none⟩) zy).trans u0
          have q1 := (hw'.cell (p := ⟨b5, 1, none⟩) zy).trans u1
          go_simp
          try go_bits
          exact hC
        simp only [putS, List.set_cons_succ, List.set_cons_zero]
        refine wpA_known (.is (.int .i64 0)) (fun _ _ h => by cases h) rfl rfl (mono_is _) (fun w' hw' => ?_) ?_
        · go_simp
          exact ⟨Below.refl _ _, (schCheck w' f.id _ f.c f.A f.fs ((hrdc.keep fun p hp => hw'.cell hp).more hw'.size)).mono fun e w'' h => is_ret (by rw [h.1, HCKI.out]) h.2⟩
        simp only [putS, List.set_cons_succ, List.set_cons_zero]
        refine wpA_value ext_grow ?_ (fun _ _ h => by cases h) rfl rfl ?_ ?_
        rotate_left 1
        · intro w' hw' C hC
          go_simp
          try go_bits
          exact hC
        simp only [putS, List.set_cons_succ, List.set_cons_zero]
        refine wpA_value ext_grow ?_ (fun _ _ h => by cases h) rfl rfl ?_ ?_
        rotate_left 1
        · intro w' hw' C hC
          go_simp
          try go_bits
          exact hC
        simp only [putS, List.set_cons_succ, List.set_cons_zero]
        refine wpA_value ext_grow ?_ (fun _ _ h => by cases h) rfl rfl ?_ ?_
        rotate_left 1
        · intro w' hw' C hC
          go_simp
          try go_bits
          exact hC
        simp only [putS, List.set_cons_succ, List.set_cons_zero]
        refine wpA_value ext_grow ?_ (fun _ _ h => by cases h) rfl rfl ?_ ?_
        rotate_left 1
        · intro w' hw' C hC
          have q0 := (hw'.cell (p := ⟨b5, 0, none⟩) zy).trans u0
          go_simp
          try go_bits
          exact hC
        simp only [putS, List.set_cons_succ, List.set_cons_zero]
        refine wpA_value ext_grow ?_ (fun _ _ h => by cases h) rfl rfl ?_ ?_
        rotate_left 1
        · intro w' hw' C hC
          go_simp
          try go_bits
          exact hC
        simp only [putS, List.set_cons_succ, List.set_cons_zero]
        refine wpA_value ext_grow ?_ (fun _ _ h => by cases h) rfl rfl ?_ ?_
        rotate_left 1
        · intro w' hw' C hC
          have q0 := (hw'.cell (p := ⟨b3, 0, none⟩) zx).trans v0
          go_simp
          try go_bits
          exact hC
        simp only [putS, List.set_cons_succ, List.set_cons_zero]
        refine wpA_value ext_grow ?_ (fun _ _ h => by cases h) rfl rfl ?_ ?_
        rotate_left 1
        · intro w' hw' C hC
          go_simp
          try go_bits
          exact hC
        simp only [putS, List.set_cons_succ, List.set_cons_zero]
        refine wpA_value ext_grow ?_ (fun _ _ h => by cases h) rfl rfl ?_ ?_
        rotate_left 1
        · intro w' hw' C hC
          go_simp
          try go_bits
          exact hC
        simp only [putS, List.set_cons_succ, List.set_cons_zero]
        refine wpA_value ext_grow ?_ (fun _ _ h => by cases h) rfl rfl ?_ ?_
        rotate_left 1
        · intro w' hw' C hC
          go_simp
          try go_bits
          exact hC
        simp only [putS, List.set_cons_succ, List.set_cons_zero]
        refine wpA_value ext_grow ?_ (fun _ _ h => by cases h) rfl rfl ?_ ?_
        rotate_left 1
        · intro w' hw' C hC
          go_simp
          try go_bits
          exact hC
        simp only [putS, List.set_cons_succ, List.set_cons_zero]
        refine wpA_value ext_grow ?_ (fun _ _ h => by cases h) rfl rfl ?_ ?_
        rotate_left 1
        · intro w' hw' C hC
          have q1 := (hw'.cell (p := ⟨b5, 1, none⟩) zy).trans u1
          go_simp
          try go_bits
          exact hC
        simp only [putS, List.set_cons_succ, List.set_cons_zero]
        refine wpA_value ext_grow ?_ (fun _ _ h => by cases h) rfl rfl ?_ ?_
        rotate_left 1
        · intro w' hw' C hC
          go_simp
          try go_bits
          exact hC
        simp only [putS, List.set_cons_succ, List.set_cons_zero]
        refine wpA_value ext_grow ?_ (fun _ _ h => by cases h) rfl rfl ?_ ?_
        rotate_left 1
        · intro w' hw' C hC
          go_simp
          try go_bits
          exact hC
        simp only [putS, List.set_cons_succ, List.set_cons_zero]
        refine wpA_value ext_grow ?_ (fun _ _ h => by cases h) rfl rfl ?_ ?_
        rotate_left 1
        · intro w' hw' C hC
          have q1 := (hw'.cell (p := ⟨b3, 1, none⟩) zx).trans v1
          go_simp
          try go_bits
          exact hC
        simp only [putS, List.set_cons_succ, List.set_cons_zero]
        refine wpA_value ext_grow ?_ (fun _ _ h => by cases h) rfl rfl ?_ ?_
        rotate_left 1
        · intro w' hw' C hC
          go_simp
          try go_bits
          exact hC
        simp only [putS, List.set_cons_succ, List.set_cons_zero]
        refine wpA_value ext_grow ?_ (fun _ _ h => by cases h) rfl rfl ?_ ?_
        rotate_left 1
        · intro w' hw' C hC
          go_simp
          try go_bits
          exact hC
        simp only [putS, List.set_cons_succ, List.set_cons_zero]
        refine wpA_value ext_grow ?_ (fun _ _ h => by cases h) rfl rfl ?_ ?_
        rotate_left 1
        · intro w' hw' C hC
          go_simp
          try go_bits
          exact hC
        simp only [putS, List.set_cons_succ, List.set_cons_zero]
        refine wpA_value ext_grow ?_ (fun _ _ h => by cases h) rfl rfl ?_ ?_
        rotate_left 1
        · intro w' hw' C hC
          go_simp
          try go_bits
          exact hC
        simp only [putS, List.set_cons_succ, List.set_cons_zero]
        refine wpA_skip rfl rfl ?_
        simp only [putS, List.set_cons_succ, List.set_cons_zero]
        refine wpA_skip rfl rfl ?_
        simp only [putS, List.set_cons_succ, List.set_cons_zero]
        refine wpA_skip rfl rfl ?_
        simp only [putS, List.set_cons_succ, List.set_cons_zero]
        refine wpA_skip rfl rfl ?_
        simp only [putS, List.set_cons_succ, List.set_cons_zero]
        refine wpA_skip rfl rfl ?_
        simp only [putS, List.set_cons_succ, List.set_cons_zero]
        refine wpA_skip rfl rfl ?_
        simp only [putS, List.set_cons_succ, List.set_cons_zero]
        refine wpA_skip rfl rfl ?_
        simp only [putS, List.set_cons_succ, List.set_cons_zero]
        refine wpA_skip rfl rfl ?_
        simp only [putS, List.set_cons_succ, List.set_cons_zero]
        refine wpA_skip rfl rfl ?_
        simp only [putS, List.set_cons_succ, List.set_cons_zero]
        refine wpA_skip rfl rfl ?_
        simp only [putS, List.set_cons_succ, List.set_cons_zero]
        refine wpA_value ext_grow ?_ (fun _ _ h => by cases h) rfl rfl ?_ ?_
        rotate_left 1
        · intro w' hw' C hC
          go_simp
          try go_bits
          exact hC
        simp only [putS, List.set_cons_succ, List.set_cons_zero]
        intro w6 hw6
        simp only [openS]
        have hb6 := below_of_drew hw6
        go_wp2_with fail
        go_ret
        exact ⟨by rw [HF.out]; rfl, by rw [HB1.out]; exact (hB2.trans (HB5.out.mono (Nat.le_of_lt z12))).trans (hb6.mono hz15)⟩
      have t3 : ¬ f.fs.length < wfs.length := g
      clear g
      have hcap : f.fs.length ≤ f.c := hrd5.le
      have hcut := fun W => run_cut_hi tyFields f.A f.fs.length f.c .i64 (wfs.length : Int) wfs.length rfl (by omega) W
      have hcut2 := fun W => cut_hi tyFields f.A f.fs.length f.c .i64 (wfs.length : Int) wfs.length rfl (by omega) W
      obtain ⟨eq, heq⟩ : ∃ eq, fdsEq (f.fs.take wfs.length) wfs = eq := ⟨_, rfl⟩
      have HEQ := hide heq
      clear heq
      by_cases g : eq = false
      · have HF : Hid (R = false) := hide (by rw [HR.out]; exact right_s HLM.out (by rw [HSO.out]; show (_ && (_ && (_ && fdsEq (f.fs.take wfs.length) wfs))) = false; rw [HEQ.out, g]; simp))
        rw [g] at HEQ
        clear g
        refine wp_region_abs ext_grow (by kernel_rfl) (by kernel_rfl) ?_
        simp only [List.map_cons, List.map_nil]
        refine wpA_value ext_grow ?_ (fun _ _ h => by cases h) rfl rfl ?_ ?_
        rotate_left 1
        · intro w' hw' C hC
          have q0 := (hw'.cell (p := ⟨b5, 0, none⟩) zy).trans u0
          have q1 := (hw'.cell (p := ⟨b5, 1, none⟩) zy).trans u1
          go_simp
          try go_bits
          exact hC
        simp only [putS, List.set_cons_succ, List.set_cons_zero]
        refine wpA_known (.is (.int .i64 0)) (fun _ _ h => by cases h) rfl rfl (mono_is _) (fun w' hw' => ?_) ?_
        · go_simp
          exact ⟨Below.refl _ _, (schCheck w' f.id _ f.c f.A f.fs ((hrdc.keep fun p hp => hw'.cell hp).more hw'.size)).mono fun e w'' h => is_ret (by rw [h.1, HCKI.out]) h.2⟩
        simp only [putS, List.set_cons_succ, List.set_cons_zero]
        refine wpA_value ext_grow ?_ (fun _ _ h => by cases h) rfl rfl ?_ ?_
        rotate_left 1
        · intro w' hw' C hC
          go_simp
          try go_bits
          exact hC
        simp only [putS, List.set_cons_succ, List.set_cons_zero]
        refine wpA_value ext_grow ?_ (fun _ _ h => by cases h) rfl rfl ?_ ?_
        rotate_left 1
        · intro w' hw' C hC
          go_simp
          try go_bits
          exact hC
        simp only [putS, List.set_cons_succ, List.set_cons_zero]
        refine wpA_value ext_grow ?_ (fun _ _ h => by cases h) rfl rfl ?_ ?_
        rotate_left 1
        · intro w' hw' C hC
          go_simp
          try go_bits
          exact hC
        simp only [putS, List.set_cons_succ, List.set_cons_zero]
        refine wpA_value ext_grow ?_ (fun _ _ h => by cases h) rfl rfl ?_ ?_
        rotate_left 1
        · intro w' hw' C hC
          have q0 := (hw'.cell (p := ⟨b5, 0, none⟩) zy).trans u0
          go_simp
          try go_bits
          exact hC
        simp only [putS, List.set_cons_succ, List.set_cons_zero]
        refine wpA_value ext_grow ?_ (fun _ _ h => by cases h) rfl rfl ?_ ?_
        rotate_left 1
        · intro w' hw' C hC
          go_simp
          try go_bits
          exact hC
        simp only [putS, List.set_cons_succ, List.set_cons_zero]
        refine wpA_value ext_grow ?_ (fun _ _ h => by cases h) rfl rfl ?_ ?_
        rotate_left 1
        · intro w' hw' C hC
          have q0 := (hw'.cell (p := ⟨b3, 0, none⟩) zx).trans v0
          go_simp
          try go_bits
          exact hC
        simp only [putS, List.set_cons_succ, List.set_cons_zero]
        refine wpA_value ext_grow ?_ (fun _ _ h => by cases h) rfl rfl ?_ ?_
        rotate_left 1
        · intro w' hw' C hC
          go_simp
          try go_bits
          exact hC
        simp only [putS, List.set_cons_succ, List.set_cons_zero]
        refine wpA_value ext_grow ?_ (fun _ _ h => by cases h) rfl rfl ?_ ?_
        rotate_left 1
        · intro w' hw' C hC
          go_simp
          try go_bits
          exact hC
        simp only [putS, List.set_cons_succ, List.set_cons_zero]
        refine wpA_value ext_grow ?_ (fun _ _ h => by cases h) rfl rfl ?_ ?_
        rotate_left 1
        · intro w' hw' C hC
          go_simp
          try go_bits
          exact hC
        simp only [putS, List.set_cons_succ, List.set_cons_zero]
        refine wpA_value ext_grow ?_ (fun _ _ h => by cases h) rfl rfl ?_ ?_
        rotate_left 1
        · intro w' hw' C hC
          go_simp
          try go_bits
          exact hC
        simp only [putS, List.set_cons_succ, List.set_cons_zero]
        refine wpA_value ext_grow ?_ (fun _ _ h => by cases h) rfl rfl ?_ ?_
        rotate_left 1
        · intro w' hw' C hC
          have q1 := (hw'.cell (p := ⟨b5, 1, none⟩) zy).trans u1
          go_simp
          try go_bits
          exact hC
        simp only [putS, List.set_cons_succ, List.set_cons_zero]
        refine wpA_value ext_grow ?_ (fun _ _ h => by cases h) rfl rfl ?_ ?_
        rotate_left 1
        · intro w' hw' C hC
          go_simp
          try go_bits
          exact hC
        simp only [putS, List.set_cons_succ, List.set_cons_zero]
        refine wpA_value ext_grow ?_ (fun _ _ h => by cases h) rfl rfl ?_ ?_
        rotate_left 1
        · intro w' hw' C hC
          go_simp
          try go_bits
          exact hC
        simp only [putS, List.set_cons_succ, List.set_cons_zero]
        refine wpA_value ext_grow ?_ (fun _ _ h => by cases h) rfl rfl ?_ ?_
        rotate_left 1
        · intro w' hw' C hC
          have q1 := (hw'.cell (p := ⟨b3, 1, none⟩) zx).trans v1
          go_simp
          try go_bits
          exact hC
        simp only [putS, List.set_cons_succ, List.set_cons_zero]
        refine wpA_value ext_grow ?_ (fun _ _ h => by cases h) rfl rfl ?_ ?_
        rotate_left 1
        · intro w' hw' C hC
          go_simp
          try go_bits
          exact hC
        simp only [putS, List.set_cons_succ, List.set_cons_zero]
        refine wpA_value ext_grow ?_ (fun _ _ h => by cases h) rfl rfl ?_ ?_
        rotate_left 1
        · intro w' hw' C hC
          go_simp
          try go_bits
          exact hC
        simp only [putS, List.set_cons_succ, List.set_cons_zero]
        refine wpA_value ext_grow ?_ (fun _ _ h => by cases h) rfl rfl ?_ ?_
        rotate_left 1
        · intro w' hw' C hC
          go_simp
          try go_bits
          exact hC
        simp only [putS, List.set_cons_succ, List.set_cons_zero]
        refine wpA_value ext_grow ?_ (fun _ _ h => by cases h) rfl rfl ?_ ?_
        rotate_left 1
        · intro w' hw' C hC
          go_simp
          try go_bits
          exact hC
        simp only [putS, List.set_cons_succ, List.set_cons_zero]
        refine wpA_value ext_grow ?_ (fun _ _ h => by cases h) rfl rfl ?_ ?_
        rotate_left 1
        · intro w' hw' C hC
          go_simp
          try go_bits
          exact hC
        simp only [putS, List.set_cons_succ, List.set_cons_zero]
        refine wpA_value ext_grow ?_ (fun _ _ h => by cases h) rfl rfl ?_ ?_
        rotate_left 1
        · intro w' hw' C hC
          have q1 := (hw'.cell (p := ⟨b5, 1, none⟩) zy).trans u1
          go_simp
          try go_bits
          exact hC
        simp only [putS, List.set_cons_succ, List.set_cons_zero]
        refine wpA_value ext_grow ?_ (fun _ _ h => by cases h) rfl rfl ?_ ?_
        rotate_left 1
        · intro w' hw' C hC
          go_simp
          try go_bits
          exact hC
        simp only [putS, List.set_cons_succ, List.set_cons_zero]
        refine wpA_value ext_grow ?_ (fun _ _ h => by cases h) rfl rfl ?_ ?_
        rotate_left 1
        · intro w' hw' C hC
          have q1 := (hw'.cell (p := ⟨b3, 1, none⟩) zx).trans v1
          go_simp
          try go_bits
          exact hC
        simp only [putS, List.set_cons_succ, List.set_cons_zero]
        refine wpA_value ext_grow ?_ (fun _ _ h => by cases h) rfl rfl ?_ ?_
        rotate_left 1
        · intro w' hw' C hC
          go_simp
          try go_bits
          exact hC
        simp only [putS, List.set_cons_succ, List.set_cons_zero]
        refine wpA_value ext_grow ?_ (fun _ _ h => by cases h) rfl rfl ?_ ?_
        rotate_left 1
        · intro w' hw' C hC
          go_simp
          try go_bits
          exact hC
        simp only [putS, List.set_cons_succ, List.set_cons_zero]
        refine wpA_value ext_grow ?_ (fun _ _ h => by cases h) rfl rfl ?_ ?_
        rotate_left 1
        · intro w' hw' C hC
          go_simp
          try go_bits
          exact hC
        simp only [putS, List.set_cons_succ, List.set_cons_zero]
        refine wpA_value ext_grow ?_ (fun _ _ h => by cases h) rfl rfl ?_ ?_
        rotate_left 1
        · intro w' hw' C hC
          have q1 := (hw'.cell (p := ⟨b3, 1, none⟩) zx).trans v1
          go_simp
          try go_bits
          exact hC
        simp only [putS, List.set_cons_succ, List.set_cons_zero]
        refine wpA_known (.is (.bool false)) (fun _ _ h => by cases h) rfl rfl (mono_is _) (fun w' hw' => ?_) ?_
        · go_simp
          exact ⟨Below.refl _ _, (equalF w' w'.heap.size wfs.length f.c _ wc f.A wA (f.fs.take wfs.length) wfs (by have := (hrdc.keep fun p hp => hw'.cell hp).pre (hi := wfs.length) (by omega); exact (by simpa [fdsV_take] using this.more hw'.size)) (((hwr5.more hz15).keep fun p hp => hw'.cell hp).more hw'.size) (Nat.le_refl _) (by simp; omega)).mono fun e w'' h => is_ret (by rw [h.1, HEQ.out]) h.2⟩
        simp only [putS, List.set_cons_succ, List.set_cons_zero]
        refine wpA_value ext_grow ?_ (fun _ _ h => by cases h) rfl rfl ?_ ?_
        rotate_left 1
        · intro w' hw' C hC
          go_simp
          try go_bits
          exact hC
        simp only [putS, List.set_cons_succ, List.set_cons_zero]
        refine wpA_value ext_grow ?_ (fun _ _ h => by cases h) rfl rfl ?_ ?_
        rotate_left 1
        · intro w' hw' C hC
          go_simp
          try go_bits
          exact hC
        simp only [putS, List.set_cons_succ, List.set_cons_zero]
        intro w6 hw6
        simp only [openS]
        have hb6 := below_of_drew hw6
        go_wp2_with fail
        go_ret
        exact ⟨by rw [HF.out]; rfl, by rw [HB1.out]; exact (hB2.trans (HB5.out.mono (Nat.le_of_lt z12))).trans (hb6.mono hz15)⟩
      obtain rfl : eq = true := by cases eq with | true => rfl | false => exact absurd rfl g
      have HOK : Hid (sOk (ss.map plS) k = true) := hide (by
        rw [HSO.out]
        show (decide (check f.id f.fs = 0) && (decide (wid.toNat < f.id.toNat) && (decide (wfs.length ≤ f.fs.length) && fdsEq (f.fs.take wfs.length) wfs))) = true
        rw [decide_eq_true HCK.out, decide_eq_true (show wid.toNat < f.id.toNat by omega), decide_eq_true (show wfs.length ≤ f.fs.length by omega), HEQ.out]
        rfl)
      clear g
      refine wp_region_abs ext_grow (by kernel_rfl) (by kernel_rfl) ?_
      simp only [List.map_cons, List.map_nil]
      refine wpA_value ext_grow ?_ (fun _ _ h => by cases h) rfl rfl ?_ ?_
      rotate_left 1
      · intro w' hw' C hC
        have q0 := (hw'.cell (p := ⟨b5, 0, none⟩) zy).trans u0
        have q1 := (hw'.cell (p := ⟨b5, 1, none⟩) zy).trans u1
        go_simp
        try go_bits
        exact hC
      simp only [putS, List.set_cons_succ, List.set_cons_zero]
      refine wpA_known (.is (.int .i64 0)) (fun _ _ h => by cases h) rfl rfl (mono_is _) (fun w' hw' => ?_) ?_
      · go_simp
        exact ⟨Below.refl _ _, (schCheck w' f.id _ f.c f.A f.fs ((hrdc.keep fun p hp => hw'.cell hp).more hw'.size)).mono fun e w'' h => is_ret (by rw [h.1, HCKI.out]) h.2⟩
      simp only [putS, List.set_cons_succ, List.set_cons_zero]
      refine wpA_value ext_grow ?_ (fun _ _ h => by cases h) rfl rfl ?_ ?_
      rotate_left 1
      · intro w' hw' C hC
        go_simp
        try go_bits
        exact hC
      simp only [putS, List.set_cons_succ, List.set_cons_zero]
      refine wpA_value ext_grow ?_ (fun _ _ h => by cases h) rfl rfl ?_ ?_
      rotate_left 1
      · intro w' hw' C hC
        go_simp
        try go_bits
        exact hC
      simp only [putS, List.set_cons_succ, List.set_cons_zero]
      refine wpA_value ext_grow ?_ (fun _ _ h => by cases h) rfl rfl ?_ ?_
      rotate_left 1
      · intro w' hw' C hC
        go_simp
        try go_bits
        exact hC
      simp only [putS, List.set_cons_succ, List.set_cons_zero]
      refine wpA_value ext_grow ?_ (fun _ _ h => by cases h) rfl rfl ?_ ?_
      rotate_left 1
      · intro w' hw' C hC
        have q0 := (hw'.cell (p := ⟨b5, 0, none⟩) zy).trans u0
        go_simp
        try go_bits
        exact hC
      simp only [putS, List.set_cons_succ, List.set_cons_zero]
      refine wpA_value ext_grow ?_ (fun _ _ h => by cases h) rfl rfl ?_ ?_
      rotate_left 1
      · intro w' hw' C hC
        go_simp
        try go_bits
        exact hC
      simp only [putS, List.set_cons_succ, List.set_cons_zero]
      refine wpA_value ext_grow ?_ (fun _ _ h => by cases h) rfl rfl ?_ ?_
      rotate_left 1
      · intro w' hw' C hC
        have q0 := (hw'.cell (p := ⟨b3, 0, none⟩) zx).trans v0
        go_simp
        try go_bits
        exact hC
      simp only [putS, List.set_cons_succ, List.set_cons_zero]
      refine wpA_value ext_grow ?_ (fun _ _ h => by cases h) rfl rfl ?_ ?_
      rotate_left 1
      · intro w' hw' C hC
        go_simp
        try go_bits
        exact hC
      simp only [putS, List.set_cons_succ, List.set_cons_zero]
      refine wpA_value ext_grow ?_ (fun _ _ h => by cases h) rfl rfl ?_ ?_
      rotate_left 1
      · intro w' hw' C hC
        go_simp
        try go_bits
        exact hC
      simp only [putS, List.set_cons_succ, List.set_cons_zero]
      refine wpA_value ext_grow ?_ (fun _ _ h => by cases h) rfl rfl ?_ ?_
      rotate_left 1
      · intro w' hw' C hC
        go_simp
        try go_bits
        exact hC
      simp only [putS, List.set_cons_succ, List.set_cons_zero]
      refine wpA_value ext_grow ?_ (fun _ _ h => by cases h) rfl rfl ?_ ?_
      rotate_left 1
      · intro w' hw' C hC
        go_simp
        try go_bits
        exact hC
      simp only [putS, List.set_cons_succ, List.set_cons_zero]
      refine wpA_value ext_grow ?_ (fun _ _ h => by cases h) rfl rfl ?_ ?_
      rotate_left 1
      · intro w' hw' C hC
        have q1 := (hw'.cell (p := ⟨b5, 1, none⟩) zy).trans u1
        go_simp
        try go_bits
        exact hC
      simp only [putS, List.set_cons_succ, List.set_cons_zero]
      refine wpA_value ext_grow ?_ (fun _ _ h => by cases h) rfl rfl ?_ ?_
      rotate_left 1
      · intro w' hw' C hC
        go_simp
        try go_bits
        exact hC
      simp only [putS, List.set_cons_succ, List.set_cons_zero]
      refine wpA_value ext_grow ?_ (fun _ _ h => by cases h) rfl rfl ?_ ?_
      rotate_left 1
      · intro w' hw' C hC
        go_simp
        try go_bits
        exact hC
      simp only [putS, List.set_cons_succ, List.set_cons_zero]
      refine wpA_value ext_grow ?_ (fun _ _ h => by cases h) rfl rfl ?_ ?_
      rotate_left 1
      · intro w' hw' C hC
        have q1 := (hw'.cell (p := ⟨b3, 1, none⟩) zx).trans v1
        go_simp
        try go_bits
        exact hC
      simp only [putS, List.set_cons_succ, List.set_cons_zero]
      refine wpA_value ext_grow ?_ (fun _ _ h => by cases h) rfl rfl ?_ ?_
      rotate_left 1
      · intro w' hw' C hC
        go_simp
        try go_bits
        exact hC
      simp only [putS, List.set_cons_succ, List.set_cons_zero]
      refine wpA_value ext_grow ?_ (fun _ _ h => by cases h) rfl rfl ?_ ?_
      rotate_left 1
      · intro w' hw' C hC
        go_simp
        try go_bits
        exact hC
      simp only [putS, List.set_cons_succ, List.set_cons_zero]
      refine wpA_value ext_grow ?_ (fun _ _ h => by cases h) rfl rfl ?_ ?_
      rotate_left 1
      · intro w' hw' C hC
        go_simp
        try go_bits
        exact hC
      simp only [putS, List.set_cons_succ, List.set_cons_zero]
      refine wpA_value ext_grow ?_ (fun _ _ h => by cases h) rfl rfl ?_ ?_
      rotate_left 1
      · intro w' hw' C hC
        go_simp
        try go_bits
        exact hC
      simp only [putS, List.set_cons_succ, List.set_cons_zero]
      refine wpA_value ext_grow ?_ (fun _ _ h => by cases h) rfl rfl ?_ ?_
      rotate_left 1
      · intro w' hw' C hC
        go_simp
        try go_bits
        exact hC
      simp only [putS, List.set_cons_succ, List.set_cons_zero]
      refine wpA_value ext_grow ?_ (fun _ _ h => by cases h) rfl rfl ?_ ?_
      rotate_left 1
      · intro w' hw' C hC
        have q1 := (hw'.cell (p := ⟨b5, 1, none⟩) zy).trans u1
        go_simp
        try go_bits
        exact hC
      simp only [putS, List.set_cons_succ, List.set_cons_zero]
      refine wpA_value ext_grow ?_ (fun _ _ h => by cases h) rfl rfl ?_ ?_
      rotate_left 1
      · intro w' hw' C hC
        go_simp
        try go_bits
        exact hC
      simp only [putS, List.set_cons_succ, List.set_cons_zero]
      refine wpA_value ext_grow ?_ (fun _ _ h => by cases h) rfl rfl ?_ ?_
      rotate_left 1
      · intro w' hw' C hC
        have q1 := (hw'.cell (p := ⟨b3, 1, none⟩) zx).trans v1
        go_simp
        try go_bits
        exact hC
      simp only [putS, List.set_cons_succ, List.set_cons_zero]
      refine wpA_value ext_grow ?_ (fun _ _ h => by cases h) rfl rfl ?_ ?_
      rotate_left 1
      · intro w' hw' C hC
        go_simp
        try go_bits
        exact hC
      simp only [putS, List.set_cons_succ, List.set_cons_zero]
      refine wpA_value ext_grow ?_ (fun _ _ h => by cases h) rfl rfl ?_ ?_
      rotate_left 1
      · intro w' hw' C hC
        go_simp
        try go_bits
        exact hC
      simp only [putS, List.set_cons_succ, List.set_cons_zero]
      refine wpA_value ext_grow ?_ (fun _ _ h => by cases h) rfl rfl ?_ ?_
      rotate_left 1
      · intro w' hw' C hC
        go_simp
        try go_bits
        exact hC
      simp only [putS, List.set_cons_succ, List.set_cons_zero]
      refine wpA_value ext_grow ?_ (fun _ _ h => by cases h) rfl rfl ?_ ?_
      rotate_left 1
      · intro w' hw' C hC
        have q1 := (hw'.cell (p := ⟨b3, 1, none⟩) zx).trans v1
        go_simp
        try go_bits
        exact hC
      simp only [putS, List.set_cons_succ, List.set_cons_zero]
      refine wpA_known (.is (.bool true)) (fun _ _ h => by cases h) rfl rfl (mono_is _) (fun w' hw' => ?_) ?_
      · go_simp
        exact ⟨Below.refl _ _, (equalF w' w'.heap.size wfs.length f.c _ wc f.A wA (f.fs.take wfs.length) wfs (by have := (hrdc.keep fun p hp => hw'.cell hp).pre (hi := wfs.length) (by omega); exact (by simpa [fdsV_take] using this.more hw'.size)) (((hwr5.more hz15).keep fun p hp => hw'.cell hp).more hw'.size) (Nat.le_refl _) (by simp; omega)).mono fun e w'' h => is_ret (by rw [h.1, HEQ.out]) h.2⟩
      simp only [putS, List.set_cons_succ, List.set_cons_zero]
      refine wpA_value ext_grow ?_ (fun _ _ h => by cases h) rfl rfl ?_ ?_
      rotate_left 1
      · intro w' hw' C hC
        go_simp
        try go_bits
        exact hC
      simp only [putS, List.set_cons_succ, List.set_cons_zero]
      refine wpA_value ext_grow ?_ (fun _ _ h => by cases h) rfl rfl ?_ ?_
      rotate_left 1
      · intro w' hw' C hC
        go_simp
        try go_bits
        exact hC
      simp only [putS, List.set_cons_succ, List.set_cons_zero]
      intro w6 hw6
      simp only [openS]
      have hb6 := below_of_drew hw6
      have X6 := HXY.out.1.keep hb6 HXY.out.1.z
      have Y6 := HXY.out.2.keep hb6 HXY.out.2.z
      have d0 := Y6.cell 0 _ rfl
      have d1 := Y6.cell 1 _ rfl
      have e0 := X6.cell 0 _ rfl
      have e1 := X6.cell 1 _ rfl
      have k0 := X6.free 0 (by simp)
      have k1 := X6.free 1 (by simp)
      have n53 : b5 ≠ b3 := by omega
      have HX6 := hide X6
      have hrd6 := hrd5.below' hb6 hz15
      have hB6 : Below b3 w2 w6 := HB5.out.trans (hb6.mono (Nat.le_of_lt zx))
      clear u0 u1 v0 v1 hwr5 hrd5 hrdc hw6 hb6 X6 Y6
      go_wp2_with fail
      go_roundw
      case rel =>
        refine ⟨k + 1, f.id, f.A, f.c, f.fs, by go_num, by omega, (HX6.out.set (j := 0) _ rfl).set (j := 1) _ rfl, ?_, hide (by rw [wasP_succ, HGE.out]; rfl), hide (fun j hj => ?_), below_set2 hB6 b3 (Nat.le_refl _) _ _⟩
        · exact rd_set2 hrd6 b3 (Nat.le_of_lt z12) _ _
        · by_cases e : j = k
          · rw [e]; exact HOK.out
          · exact hall.out j (by omega)
      case measure => simp [intOf]; omega
    · have hallS : Hid (∀ j, j < (ss.map plS).length → sOk (ss.map plS) j = true) := hide (fun j hj => hall.out j (by rw [List.length_map] at hj; omega))
      have hfs : ∀ s ∈ ss, s.fs.length ≤ 1000000 := fun s hs => by
        obtain ⟨j, hj, rfl⟩ := List.getElem_of_mem hs
        have h1 := hallS.out j (by rw [List.length_map]; exact hj)
        unfold sOk at h1
        rw [plS_get] at h1
        simp only [Bool.and_eq_true, decide_eq_true_eq] at h1
        have h2 := (check_len h1.1).2.2
        have e : ss.getD j default = ss[j] := by simp [List.getD, hj]
        rw [e] at h2
        show ss[j].fs.length ≤ 1000000
        have : (plS ss[j]).2 = ss[j].fs := rfl
        rw [this] at h2
        omega
      have HFS := hide hfs
      have hbrz : w2.heap.size ≤ wr.heap.size := hbr.size
      have hTr := hT2.below (hbr.mono (Nat.le_of_lt z12))
      have cb0 := (hbr.cell (p := ⟨b1, 0, none⟩) z12).trans c0
      have cb1 := (hbr.cell (p := ⟨b1, 1, none⟩) z12).trans c1
      have cb2 := (hbr.cell (p := ⟨b1, 2, none⟩) z12).trans c2
      have hB0 : Below b1 w wr := hB2.trans (hbr.mono (Nat.le_of_lt z12))
      have zb1 : b1 < wr.heap.size := by omega
      clear hfs X hwr hwas hall hbr hT2 c0 c1 c2 x1b x2
      have x6 := boxN_new wr #[.int .u64 0, .int .u64 0, .int .u64 0, .int .u64 0, .int .u64 0, .int .u32 0, .slice none 0 0] 73
      have hb6 := (Below.refl wr.heap.size wr).alloc (Nat.le_refl _) (.cells #[.int .u64 0, .int .u64 0, .int .u64 0, .int .u64 0, .int .u64 0, .int .u32 0, .slice none 0 0] 73)
      have hT6 := hTr.below (hb6.mono (Nat.le_of_lt zb1))
      have d0 := (hb6.cell (p := ⟨b1, 0, none⟩) zb1).trans cb0
      have d1 := (hb6.cell (p := ⟨b1, 1, none⟩) zb1).trans cb1
      have d2 := (hb6.cell (p := ⟨b1, 2, none⟩) zb1).trans cb2
      have hB6 : Below b1 w _ := hB0.trans (hb6.mono (Nat.le_of_lt zb1))
      go_wp2_with fail
      generalize wr.alloc (.cells #[.int .u64 0, .int .u64 0, .int .u64 0, .int .u64 0, .int .u64 0, .int .u32 0, .slice none 0 0] 73) = w6 at *
      generalize wr.heap.size = b6 at *
      have z66 : b6 < w6.heap.size := x6.z
      clear hTr cb0 cb1 cb2 hB0 hb6
      clear hlt hk
      go_loopw [70] (fun iv wq => ∃ (k : Nat) (p : Sn) (A : Option Addr) (c : Nat), iv = .int .i64 (k : Int) ∧ k ≤ ns.length ∧ BoxN wq b6 #[.int .u64 (p.id.toNat : Int), .int .u64 (p.par.toNat : Int), .int .u64 (p.seq.toNat : Int), .int .u64 (p.off.toNat : Int), .int .u64 (p.tim.toNat : Int), .int .u32 (p.sch.toNat : Int), .slice A p.ms.length c].toList ∧ Hid (wasN (ns.map plN) k = p) ∧ Hid (∀ j, j < k → nOk (ss.map plS) (ns.map plN) j = true) ∧ Below b6 w6 wq) (fun iv _ => ns.length - (intOf iv).toNat)
      case atStart => exact ⟨0, default, none, 0, rfl, Nat.zero_le _, x6, hide rfl, hide (fun j h => by omega), Below.refl _ _⟩
      case round =>
        clear hbrz
        obtain ⟨m, p, pA, pc, rfl, hm, X, hwas, hall, hbr⟩ := hrel
        have e0 := (hbr.cell (p := ⟨b1, 0, none⟩) zb1).trans d0
        have e1 := (hbr.cell (p := ⟨b1, 1, none⟩) zb1).trans d1
        have e2 := (hbr.cell (p := ⟨b1, 2, none⟩) zb1).trans d2
        have hBr : Below b1 w wr := hB6.trans (hbr.mono (Nat.le_of_lt zb1))
        have hTr := (hT6.below (hbr.mono (Nat.le_of_lt zb1))).more (show b1 ≤ wr.heap.size by have := hbr.size; omega)
        by_cases hlt : m < ns.length
        · obtain ⟨b, off, rfl, hb, f0, f1, f2, f3, f4, f5, f6⟩ := hTr.nrow.nl hlt
          have hrd := hTr.n_at hlt
          have hge := plN_get ns m
          generalize hf : ns.getD m default = f at *
          have hno := nOk_eq (ss := ss.map plS) (s := f.p) (was := p) hge hwas.out
          have HNO := hide hno
          have HGE := hide hge
          have hlm : m < (ns.map plN).length := by rw [List.length_map]; exact hlt
          have HLM := hide hlm
          clear hf hge hno hlm
          have y := boxN_new wr #[.int .u64 (f.p.id.toNat : Int), .int .u64 (f.p.par.toNat : Int), .int .u64 (f.p.seq.toNat : Int), .int .u64 (f.p.off.toNat : Int), .int .u64 (f.p.tim.toNat : Int), .int .u32 (f.p.sch.toNat : Int), .slice f.A f.p.ms.length f.c] 73
          have hbA := (Below.refl wr.heap.size wr).alloc (Nat.le_refl _) (.cells #[.int .u64 (f.p.id.toNat : Int), .int .u64 (f.p.par.toNat : Int), .int .u64 (f.p.seq.toNat : Int), .int .u64 (f.p.off.toNat : Int), .int .u64 (f.p.tim.toNat : Int), .int .u32 (f.p.sch.toNat : Int), .slice f.A f.p.ms.length f.c] 73)
          have X5 := X.keep hbA X.z
          have hz6 : b6 < wr.heap.size := X.z
          have hT5 := hTr.later hbA
          have hrd5 := (hrd.below hbA).more hbA.size
          have hB5 : Below b6 w6 _ := below_call hbr (Nat.le_of_lt hz6) hbA
          have i0 := (hbA.cell (p := ⟨b1, 0, none⟩) (show b1 < wr.heap.size by omega)).trans e0
          have i1 := (hbA.cell (p := ⟨b1, 1, none⟩) (show b1 < wr.heap.size by omega)).trans e1
          have i2 := (hbA.cell (p := ⟨b1, 2, none⟩) (show b1 < wr.heap.size by omega)).trans e2
          have hBr5 : Below b1 w _ := below_call hBr (show b1 ≤ wr.heap.size by omega) hbA
          have g0 := y.cell 0 _ rfl
          have v0 := X5.cell 0 _ rfl
          have g1 := y.cell 1 _ rfl
          have v1 := X5.cell 1 _ rfl
          have g2 := y.cell 2 _ rfl
          have v2 := X5.cell 2 _ rfl
          have g3 := y.cell 3 _ rfl
          have v3 := X5.cell 3 _ rfl
          have g4 := y.cell 4 _ rfl
          have v4 := X5.cell 4 _ rfl
          have g5 := y.cell 5 _ rfl
          have v5 := X5.cell 5 _ rfl
          have g6 := y.cell 6 _ rfl
          have v6 := X5.cell 6 _ rfl
          have HX5 := hide X5
          have HY := hide y
          clear y X5
          go_upto_region 15 with fail
          go_cut [70, 100] from 70 to 143 (fun iv v wx => iv = .int .i64 (m : Int) ∧ v = .bool (!(n15 p f.p)) ∧ wx = wr.alloc (.cells #[.int .u64 (f.p.id.toNat : Int), .int .u64 (f.p.par.toNat : Int), .int .u64 (f.p.seq.toNat : Int), .int .u64 (f.p.off.toNat : Int), .int .u64 (f.p.tim.toNat : Int), .int .u32 (f.p.sch.toNat : Int), .slice f.A f.p.ms.length f.c] 73))
          case first =>
            by_cases h1 : f.p.id.toNat ≤ p.id.toNat
            · have HN : Hid (n15 p f.p = false) := hide (by unfold n15; rw [decide_eq_false (show ¬ p.id.toNat < f.p.id.toNat by omega)]; rfl)
              go_wp2_with fail
              go_meet
              exact ⟨rfl, by rw [HN.out]; rfl, rfl⟩
            by_cases h2 : 1073741824 < f.p.id.toNat
            · have t2 : decide ((1073741824 : Int) < (f.p.id.toNat : Int)) = true := decide_eq_true (by omega)
              have HN : Hid (n15 p f.p = false) := hide (by unfold n15; rw [decide_eq_false (show ¬ f.p.id.toNat ≤ 1073741824 by omega)]; simp)
              clear h2
              go_wp2_with fail
              go_meet
              exact ⟨rfl, by rw [HN.out]; rfl, rfl⟩
            have t2 : decide ((1073741824 : Int) < (f.p.id.toNat : Int)) = false := decide_eq_false (by omega)
            by_cases h3 : f.p.id.toNat ≤ f.p.par.toNat
            · have HN : Hid (n15 p f.p = false) := hide (by unfold n15; rw [decide_eq_false (show ¬ f.p.par.toNat < f.p.id.toNat by omega)]; simp)
              clear h2
              go_wp2_with fail
              go_meet
              exact ⟨rfl, by rw [HN.out]; rfl, rfl⟩
            have HN : Hid (n15 p f.p = decide (f.p.seq.toNat ≤ 1073741824 ∧ f.p.off.toNat ≤ 1073741824 ∧ f.p.tim.toNat ≤ 1073741824)) := hide (by
              unfold n15
              rw [decide_eq_true (show p.id.toNat < f.p.id.toNat by omega), decide_eq_true (show f.p.id.toNat ≤ 1073741824 by omega), decide_eq_true (show f.p.par.toNat < f.p.id.toNat by omega)]
              rfl)
            generalize f.p.seq.toNat = q1 at *
            generalize f.p.off.toNat = q2 at *
            generalize f.p.tim.toNat = q3 at *
            clear h2
            go_wp2_with fail
            all_goals go_meet
            all_goals refine ⟨rfl, ?_, rfl⟩
            all_goals rw [HN.out]
            all_goals clear HN
            all_goals congr 1
            all_goals rw [Bool.eq_iff_iff]
            all_goals simp only [decide_eq_true_eq, Bool.not_eq_true', decide_eq_false_iff_not]
            all_goals omega
          case rest =>
            obtain ⟨rfl, rfl, rfl⟩ := hcut
            generalize wr.alloc (.cells #[.int .u64 (f.p.id.toNat : Int), .int .u64 (f.p.par.toNat : Int), .int .u64 (f.p.seq.toNat : Int), .int .u64 (f.p.off.toNat : Int), .int .u64 (f.p.tim.toNat : Int), .int .u32 (f.p.sch.toNat : Int), .slice f.A f.p.ms.length f.c] 73) = w7 at *
            generalize wr.heap.size = b8 at *
            clear f0 f1 f2 f3 f4 f5 f6 e0 e1 e2 hBr hTr hrd X hbA hbr
            cases hn15 : n15 p f.p with
            | false =>
              have HF : Hid (R = false) := hide (by rw [HR.out]; exact right_n HLM.out (by rw [HNO.out, nOk_split, hn15]; rfl))
              clear hn15
              go_wp2_with fail
              go_ret
              exact ⟨by rw [HF.out]; rfl, by rw [HB1.out]; exact hBr5⟩
            | true =>
              have HN15 := hide hn15
              clear hn15
              go_upto_region 17 with fail
              go_cut [70, 132] from 70 to 143 (fun iv v wx => iv = .int .i64 (m : Int) ∧ v = .bool (!(n17 p f.p && namesOk f.p.ms)) ∧ Below w7.heap.size w7 wx)
              case first =>
                by_cases h0 : f.p.seq.toNat < p.seq.toNat
                · have HN : Hid (n17 p f.p = false) := hide (by unfold n17; rw [decide_eq_false (show ¬ p.seq.toNat ≤ f.p.seq.toNat by omega)]; simp)
                  go_wp2_with fail
                  go_meet
                  exact ⟨rfl, by rw [HN.out]; rfl, Below.refl _ _⟩
                by_cases h1 : f.p.off.toNat < p.off.toNat
                · have HN : Hid (n17 p f.p = false) := hide (by unfold n17; rw [decide_eq_false (show ¬ p.off.toNat ≤ f.p.off.toNat by omega)]; simp)
                  go_wp2_with fail
                  go_meet
                  exact ⟨rfl, by rw [HN.out]; rfl, Below.refl _ _⟩
                by_cases h2 : f.p.tim.toNat < p.tim.toNat
                · have HN : Hid (n17 p f.p = false) := hide (by unfold n17; rw [decide_eq_false (show ¬ p.tim.toNat ≤ f.p.tim.toNat by omega)]; simp)
                  go_wp2_with fail
                  go_meet
                  exact ⟨rfl, by rw [HN.out]; rfl, Below.refl _ _⟩
                by_cases h3 : f.p.sch.toNat < p.sch.toNat
                · have HN : Hid (n17 p f.p = false) := hide (by unfold n17; rw [decide_eq_false (show ¬ p.sch.toNat ≤ f.p.sch.toNat by omega)]; simp)
                  go_wp2_with fail
                  go_meet
                  exact ⟨rfl, by rw [HN.out]; rfl, Below.refl _ _⟩
                have HN : Hid (n17 p f.p = true) := hide (by unfold n17; rw [decide_eq_true (show p.seq.toNat ≤ f.p.seq.toNat by omega), decide_eq_true (show p.off.toNat ≤ f.p.off.toNat by omega), decide_eq_true (show p.tim.toNat ≤ f.p.tim.toNat by omega), decide_eq_true (show p.sch.toNat ≤ f.p.sch.toNat by omega)]; rfl)
                go_wp2_with fail
                refine (metaNames w7 _ f.c f.A f.p.ms hrd5).mono ?_
                rintro e w8 ⟨rfl, hb8⟩
                go_wp2_with fail
                go_meet
                exact ⟨rfl, by rw [HN.out]; rfl, hb8⟩
              case rest =>
                obtain ⟨rfl, rfl, hb8⟩ := hcut
                have X8 := HX5.out.keep hb8 HX5.out.z
                have Y8 := HY.out.keep hb8 HY.out.z
                have z8 : b6 < w7.heap.size := HX5.out.z
                have hT8 := hT5.later hb8
                have j0 := (hb8.cell (p := ⟨b1, 0, none⟩) (show b1 < w7.heap.size by omega)).trans i0
                have j1 := (hb8.cell (p := ⟨b1, 1, none⟩) (show b1 < w7.heap.size by omega)).trans i1
                have j2 := (hb8.cell (p := ⟨b1, 2, none⟩) (show b1 < w7.heap.size by omega)).trans i2
                have hBr8 : Below b1 w wc := below_call hBr5 (show b1 ≤ w7.heap.size by omega) hb8
                have hB8 : Below b6 w6 wc := below_call hB5 (Nat.le_of_lt z8) hb8
                have zc : b6 < wc.heap.size := Nat.lt_of_lt_of_le z8 hb8.size
                clear g0 v0 g1 v1 g2 v2 g3 v3 g4 v4 g5 v5 g6 v6 i0 i1 i2 hT5 hB5 hBr5 hrd5 hb8
                cases hn17 : n17 p f.p && namesOk f.p.ms with
                | false =>
                  have HF : Hid (R = false) := hide (by rw [HR.out]; exact right_n HLM.out (by rw [HNO.out, nOk_split, HN15.out]; simp only [Bool.true_and]; rw [← Bool.and_assoc, hn17]; rfl))
                  clear hn17
                  go_wp2_with fail
                  go_ret
                  exact ⟨by rw [HF.out]; rfl, by rw [HB1.out]; exact hBr8⟩
                | true =>
                  have HN17 := hide hn17
                  clear hn17
                  have g0 := Y8.cell 0 _ rfl
                  have g1 := Y8.cell 1 _ rfl
                  have g2 := Y8.cell 2 _ rfl
                  have g3 := Y8.cell 3 _ rfl
                  have g4 := Y8.cell 4 _ rfl
                  have g5 := Y8.cell 5 _ rfl
                  have g6 := Y8.cell 6 _ rfl
                  have HXY := hide (And.intro X8 Y8)
                  have HAS := has_any ss f.p.sch
                  have HH := hide HAS
                  clear X8 Y8 HAS
                  go_wp2_with fail
                  refine (metaShape wc sA sc ss _ nc ns cur hT8 (by have := HL.out; omega) HFS.out f.p.sch).mono ?_
                  rintro e w9 ⟨F, fc, rfl, _, hb9⟩
                  obtain ⟨i, hi⟩ : ∃ i, i = cIx ss f.p.sch := ⟨_, rfl⟩
                  rw [← hi]
                  have HI := hide hi
                  generalize slId ss i = si at *
                  generalize slFs ss i = sf at *
                  clear hi
                  have X9 := HXY.out.1.keep hb9 HXY.out.1.z
                  have Y9 := HXY.out.2.keep hb9 HXY.out.2.z
                  have hBr9 : Below b1 w w9 := below_call hBr8 (show b1 ≤ wc.heap.size by omega) hb9
                  have hB9 : Below b6 w6 w9 := below_call hB8 (Nat.le_of_lt zc) hb9
                  have z9 : b6 < w9.heap.size := Nat.lt_of_lt_of_le zc hb9.size
                  clear g0 g1 g2 g3 g4 g5 g6 j0 j1 j2 hT8 hBr8 hB8 hb9
                  cases hd : decide (0 ≤ i) with
                  | false =>
                    have HF : Hid (R = false) := hide (by rw [HR.out]; exact right_n HLM.out (by rw [HNO.out, nOk_split, HN15.out]; simp only [Bool.true_and]; rw [← Bool.and_assoc, HN17.out, HH.out, ← HI.out, hd]; rfl))
                    clear hd X9 Y9
                    go_wp2_with fail
                    go_ret
                    exact ⟨by rw [HF.out]; rfl, by rw [HB1.out]; exact hBr9.alloc (show b1 ≤ w9.heap.size by omega) _⟩
                  | true =>
                    have HOK : Hid (nOk (ss.map plS) (ns.map plN) m = true) := hide (by rw [HNO.out, nOk_split, HN15.out]; simp only [Bool.true_and]; rw [← Bool.and_assoc, HN17.out, HH.out, ← HI.out, hd]; rfl)
                    have hbT := (Below.refl w9.heap.size w9).alloc (Nat.le_refl _) (.cells #[.int .u32 (si.toNat : Int), .slice F sf.length fc] 25)
                    have XA := X9.keep hbT X9.z
                    have YA := Y9.keep hbT Y9.z
                    have hBA : Below b6 w6 _ := below_call hB9 (Nat.le_of_lt z9) hbT
                    go_upto_region 22 with fail
                    generalize w9.alloc (.cells #[.int .u32 (si.toNat : Int), .slice F sf.length fc] 25) = wT at *
                    have g0 := YA.cell 0 _ rfl
                    have g1 := YA.cell 1 _ rfl
                    have g2 := YA.cell 2 _ rfl
                    have g3 := YA.cell 3 _ rfl
                    have g4 := YA.cell 4 _ rfl
                    have g5 := YA.cell 5 _ rfl
                    have g6 := YA.cell 6 _ rfl
                    have v0 := XA.cell 0 _ rfl
                    have k0 := XA.free 0 (by simp)
                    have v1 := XA.cell 1 _ rfl
                    have k1 := XA.free 1 (by simp)
                    have v2 := XA.cell 2 _ rfl
                    have k2 := XA.free 2 (by simp)
                    have v3 := XA.cell 3 _ rfl
                    have k3 := XA.free 3 (by simp)
                    have v4 := XA.cell 4 _ rfl
                    have k4 := XA.free 4 (by simp)
                    have v5 := XA.cell 5 _ rfl
                    have k5 := XA.free 5 (by simp)
                    have v6 := XA.cell 6 _ rfl
                    have k6 := XA.free 6 (by simp)
                    have n86 : b8 ≠ b6 := by omega
                    have HXA := hide XA
                    clear hd X9 Y9 XA YA hB9 hBr9 hbT
                    go_wp2_with fail
                    go_roundw
                    case rel =>
                      refine ⟨m + 1, f.p, f.A, f.c, by go_num, by omega, HXA.out.set7, hide (by rw [wasN_succ, HGE.out]; rfl), hide (fun j hj => ?_), below_set7 hBA (Nat.le_refl _)⟩
                      by_cases e : j = m
                      · rw [e]; exact HOK.out
                      · exact hall.out j (by omega)
                    case measure => simp [intOf]; omega
        · have HF : Hid (R = decide (cur = p.id.toNat)) := hide (by
            rw [HR.out, right_all (by simp only [List.length_map]; exact HL.out) hallS.out (fun j hj => hall.out j (by rw [List.length_map] at hj; omega))]
            rw [List.length_map, show ns.length = m by omega, hwas.out])
          have v0 := X.cell 0 _ rfl
          obtain ⟨eqb, heqb⟩ : ∃ eqb, eqb = decide (cur = p.id.toNat) := ⟨_, rfl⟩
          have hq : ((cur : Int) == (p.id.toNat : Int)) = eqb := by rw [heqb, Bool.eq_iff_iff]; simp; omega
          have HE := hide heqb
          clear heqb
          go_wp2_with fail
          go_ret
          exact ⟨by rw [HF.out, ← HE.out]; first | rfl | (rw [hq]; rfl), by rw [HB1.out]; exact hBr⟩
end Go.Proofs.Ytlccpchlclpnaaa
