/- WALKS of cells made fit, of their values, of rows. No statement of the seat is proved here; no condition. -/
import Derived.Test.YtlccpchlclpnaaaCel
namespace Go.Proofs.Ytlccpchlclpnaaa
open Go.RowKit

theorem load_cl (w : World) (b : Nat) (x y z : Value) (c0 : w.cell? ⟨b, 0, none⟩ = some x) (c1 : w.cell? ⟨b, 1, none⟩ = some y) (c2 : w.cell? ⟨b, 2, none⟩ = some z) : (loadVar 109 ⟨b, 0, none⟩).run Try.prog w = .ok (.agg #[x, y, z]) w := by
  go_simp
theorem ret_cl {fn : Func} {p : Tmp} (h : fn.results = #[.cell p 109]) (tmps : Array Value) (w : World) {b : Nat} {x y z : Value} (hp : tmps.getD p undef = .pointer (some ⟨b, 0, none⟩)) (c0 : w.cell? ⟨b, 0, none⟩ = some x) (c1 : w.cell? ⟨b, 1, none⟩ = some y) (c2 : w.cell? ⟨b, 2, none⟩ = some z) :
    (results fn tmps).run Try.prog w = .ok (.agg #[x, y, z]) w := by
  have := load_cl w b x y z c0 c1 c2
  have hp' : tmps[p]?.getD undef = .pointer (some ⟨b, 0, none⟩) := by simpa using hp
  simp only [results, h]
  simp [hp', asAddr, Sem.run_bind, Result.andThen, this]
theorem set3 (W : World) (b : Nat) (u v t x y z : Value) (c0 : W.cell? ⟨b, 0, none⟩ = some u) (c1 : W.cell? ⟨b, 1, none⟩ = some v) (c2 : W.cell? ⟨b, 2, none⟩ = some t) :
    (((W.setCell ⟨b, 0, none⟩ x).setCell ⟨b, 1, none⟩ y).setCell ⟨b, 2, none⟩ z).cell? ⟨b, 0, none⟩ = some x ∧ (((W.setCell ⟨b, 0, none⟩ x).setCell ⟨b, 1, none⟩ y).setCell ⟨b, 2, none⟩ z).cell? ⟨b, 1, none⟩ = some y ∧ (((W.setCell ⟨b, 0, none⟩ x).setCell ⟨b, 1, none⟩ y).setCell ⟨b, 2, none⟩ z).cell? ⟨b, 2, none⟩ = some z := by
  refine ⟨?_, ?_, ?_⟩ <;> go_simp
theorem below_set3 {B : Nat} {w W : World} (h : Below B w W) (b : Nat) (hb : B ≤ b) (x y z : Value) : Below B w (((W.setCell ⟨b, 0, none⟩ x).setCell ⟨b, 1, none⟩ y).setCell ⟨b, 2, none⟩ z) := ((h.setCell hb x).setCell hb y).setCell hb z

/-- itself, or the null cell -/
def fixC (c : Cl) : Cl := if cellErr c = 0 then c else ⟨0, 0, ⟨#[]⟩⟩
theorem fixC_kind (c : Cl) : (fixC c).kind.toNat = 0 ∨ (fixC c).kind.toNat = 1 ∨ (fixC c).kind.toNat = 2 ∨ (fixC c).kind.toNat = 3 := by
  unfold fixC
  split
  · next h =>
    have : ¬ 3 < c.kind.toNat := by
      intro h3
      unfold cellErr at h
      rw [if_pos h3] at h
      omega
    omega
  · left; rfl
set_option maxRecDepth 100000 in
set_option maxHeartbeats 1000000 in
theorem refFix (w : World) (c : Cl) : Calls Try.prog 63 #[.agg #[.int .u8 (c.kind.toNat : Int), .int .i64 c.n, .string c.s]] w fun e w' => e = .returned (.agg #[.int .u8 ((fixC c).kind.toNat : Int), .int .i64 (fixC c).n, .string (fixC c).s]) ∧ Below w.heap.size w w' := by
  go_enter Try.func63, Try.ntmps63
  go_wp2_with fail
  have x1 := box_new w #[.int .u8 (c.kind.toNat : Int), .int .i64 c.n, .string c.s] 109
  generalize hwa : w.alloc (.cells #[.int .u8 (c.kind.toNat : Int), .int .i64 c.n, .string c.s] 109) = wa at *
  have x3 := box_new wa #[.int .u8 0, .int .i64 0, .string ⟨#[]⟩] 109
  generalize hwc : wa.alloc (.cells #[.int .u8 0, .int .i64 0, .string ⟨#[]⟩] 109) = w2 at *
  have za := x1.size
  obtain ⟨cs, _, zs, hb2⟩ := x1.lift x3.below
  obtain ⟨cr, fr, zr, _⟩ := x3.lift (Below.refl _ _)
  have s0 := cs 0 _ rfl
  have s1 := cs 1 _ rfl
  have s2 := cs 2 _ rfl
  have r0 := cr 0 _ rfl
  have r1 := cr 1 _ rfl
  have r2 := cr 2 _ rfl
  have f0 := fr 0
  have f1 := fr 1
  have f2 := fr 2
  rw [show w.heap.size + 1 = wa.heap.size by omega]
  have zbr : w.heap.size ≤ wa.heap.size := by omega
  generalize hbs : w.heap.size = bs at *
  generalize hbr : wa.heap.size = br at *
  have HZ := hide (And.intro hbs hbr)
  clear hwa hwc cs cr fr x1 x3 za hbs hbr
  refine (refCell w2 c).mono ?_
  rintro e w3 ⟨rfl, hb3⟩
  have hB3 : Below bs w w3 := below_call hb2 (Nat.le_of_lt zs) hb3
  have p0 := (hb3.cell (p := ⟨bs, 0, none⟩) zs).trans s0
  have p1 := (hb3.cell (p := ⟨bs, 1, none⟩) zs).trans s1
  have p2 := (hb3.cell (p := ⟨bs, 2, none⟩) zs).trans s2
  have q0 := (hb3.cell (p := ⟨br, 0, none⟩) zr).trans r0
  have q1 := (hb3.cell (p := ⟨br, 1, none⟩) zr).trans r1
  have q2 := (hb3.cell (p := ⟨br, 2, none⟩) zr).trans r2
  have g0 := (hb3.frozen (p := ⟨br, 0, none⟩) zr).trans f0
  have g1 := (hb3.frozen (p := ⟨br, 1, none⟩) zr).trans f1
  have g2 := (hb3.frozen (p := ⟨br, 2, none⟩) zr).trans f2
  clear s0 s1 s2 r0 r1 r2 f0 f1 f2 hb3 hb2
  by_cases hck : cellErr c = 0
  · have t1 : ((cellErr c : Int) != 0) = false := by rw [hck]; rfl
    have hfx : fixC c = c := by unfold fixC; rw [if_pos hck]
    have HFX := hide hfx
    generalize cellErr c = ce at t1
    clear hck hfx
    go_wp2_with fail
    (try simp only [Exit.inBlock, Exit.then])
    obtain ⟨u0, u1, u2⟩ := set3 w3 br _ _ _ (.int .u8 (c.kind.toNat : Int)) (.int .i64 c.n) (.string c.s) q0 q1 q2
    refine bodyPost_ret (ret_cl (b := br) rfl _ _ rfl u0 u1 u2) rfl ?_
    exact ⟨by rw [HFX.out], by rw [HZ.out.1]; exact below_set3 hB3 br zbr _ _ _⟩
  · have t1 : ((cellErr c : Int) != 0) = true := by rw [bne_iff_ne]; omega
    have hfx : fixC c = ⟨0, 0, ⟨#[]⟩⟩ := by unfold fixC; rw [if_neg hck]
    have HFX := hide hfx
    generalize cellErr c = ce at t1
    clear hck hfx
    go_wp2_with fail
    (try simp only [Exit.inBlock, Exit.then])
    obtain ⟨u0, u1, u2⟩ := set3 w3 br _ _ _ (.int .u8 0) (.int .i64 0) (.string ⟨#[]⟩) q0 q1 q2
    refine bodyPost_ret (ret_cl (b := br) rfl _ _ rfl u0 u1 u2) rfl ?_
    exact ⟨by rw [HFX.out]; rfl, by rw [HZ.out.1]; exact below_set3 hB3 br zbr _ _ _⟩

/-- a cell's value -/
def valOf (c : Cl) : Vl := if (fixC c).kind.toNat = 1 then .whole (fixC c).n else if (fixC c).kind.toNat = 2 then .truth ((fixC c).n == 1) else if (fixC c).kind.toNat = 3 then .text (fixC c).s else .none
set_option maxRecDepth 100000 in
set_option maxHeartbeats 1000000 in
theorem lawValue (w : World) (c : Cl) : Calls Try.prog 62 #[.agg #[.int .u8 (c.kind.toNat : Int), .int .i64 c.n, .string c.s]] w fun e w' => e = .returned (vlV (valOf c)) ∧ Below w.heap.size w w' := by
  have hk := fixC_kind c
  go_enter Try.func62, Try.ntmps62
  go_wp2_with fail
  have x1 := box_new w #[.int .u8 (c.kind.toNat : Int), .int .i64 c.n, .string c.s] 109
  generalize hwa : w.alloc (.cells #[.int .u8 (c.kind.toNat : Int), .int .i64 c.n, .string c.s] 109) = w2 at *
  obtain ⟨cs, fs, zs, hb2⟩ := x1.lift (Below.refl _ _)
  have s0 := cs 0 _ rfl
  have s1 := cs 1 _ rfl
  have s2 := cs 2 _ rfl
  have f0 := fs 0
  have f1 := fs 1
  have f2 := fs 2
  generalize hbs : w.heap.size = bs at *
  have HZ := hide hbs
  clear hwa cs fs x1 hbs
  refine (refFix w2 c).mono ?_
  rintro e w3 ⟨rfl, hb3⟩
  have hB3 : Below bs w w3 := below_call hb2 (Nat.le_of_lt zs) hb3
  have p0 := (hb3.cell (p := ⟨bs, 0, none⟩) zs).trans s0
  have p1 := (hb3.cell (p := ⟨bs, 1, none⟩) zs).trans s1
  have p2 := (hb3.cell (p := ⟨bs, 2, none⟩) zs).trans s2
  have g0 := (hb3.frozen (p := ⟨bs, 0, none⟩) zs).trans f0
  have g1 := (hb3.frozen (p := ⟨bs, 1, none⟩) zs).trans f1
  have g2 := (hb3.frozen (p := ⟨bs, 2, none⟩) zs).trans f2
  clear s0 s1 s2 f0 f1 f2 hb3 hb2
  have hv : valOf c = if (fixC c).kind.toNat = 1 then .whole (fixC c).n else if (fixC c).kind.toNat = 2 then .truth ((fixC c).n == 1) else if (fixC c).kind.toNat = 3 then .text (fixC c).s else .none := rfl
  generalize (fixC c).kind.toNat = kk at *
  generalize (fixC c).n = nn at *
  generalize (fixC c).s = ss at *
  have HV := hide hv
  clear hv
  rcases hk with rfl | rfl | rfl | rfl
  all_goals
    go_wp2_with fail
    go_ret
    exact ⟨by rw [HV.out]; rfl, by rw [HZ.out]; exact below_set3 hB3 bs (Nat.le_refl _) _ _ _⟩
end Go.Proofs.Ytlccpchlclpnaaa
