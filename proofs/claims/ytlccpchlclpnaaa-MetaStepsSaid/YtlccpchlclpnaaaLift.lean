/- THE WALK of the program's Lift. No statement of the seat is proved here; no condition. -/
import Derived.Test.YtlccpchlclpnaaaFit
namespace Go.Proofs.Ytlccpchlclpnaaa
open Go.RowKit

theorem tyVals : STy Try.prog 43 97 1 16 .nilIface := ⟨Try.underlying43, by kernel_rfl, rfl, by decide, by decide⟩
/-- what a row has for a field -/
def liftAt (fr : List Fd) (row : List Vl) (f : Fd) : Vl := if 0 ≤ placeOf f.id.toNat fr ∧ placeOf f.id.toNat fr < (row.length : Int) then row.getD (placeOf f.id.toNat fr).toNat default else .none
def liftRow (fr to : List Fd) (row : List Vl) : List Vl := to.map (liftAt fr row)
theorem liftRow_of {fr to : List Fd} {row L : List Vl} (hl : L.length = to.length) (h : ∀ j, j < to.length → L.getD j default = liftAt fr row (to.getD j default)) : L = liftRow fr to row := by
  apply List.ext_getElem
  · simp [liftRow, hl]
  · intro j h1 h2
    have := h j (by omega)
    simp only [liftRow, List.getElem_map]
    simpa [List.getD, h1, show j < to.length by omega] using this
theorem vlsV_set (l : List Vl) (k : Nat) (v : Vl) : vlsV (l.set k v) = (vlsV l).set k (vlV v) := by simp [vlsV, List.map_set]
theorem made_nil (n : Nat) : (madeCells #[Value.nilIface] n).toList = vlsV (List.replicate n .none) := by
  unfold madeCells vlsV
  rw [List.map_replicate]
  apply List.ext_getElem
  · simp
  · intro j h1 h2
    simp [vlV, Nat.mod_one]

set_option maxRecDepth 100000 in
set_option maxHeartbeats 2000000 in
theorem schLift (w : World) (id1 id2 : UInt32) (n1 c1 n2 c2 m d : Nat) (A1 A2 B : Option Addr) (fr to : List Fd) (row : List Vl)
    (hr1 : Rd w w.heap.size 4 A1 n1 c1 (fdsV fr)) (hr2 : Rd w w.heap.size 4 A2 n2 c2 (fdsV to)) (hv : Rd w w.heap.size 1 B m d (vlsV row)) (hm1 : fr.length ≤ 1000000) (hm2 : to.length ≤ 1000000) :
    Calls Try.prog 26 #[.agg #[.int .u32 (id1.toNat : Int), .slice A1 n1 c1], .agg #[.int .u32 (id2.toNat : Int), .slice A2 n2 c2], .slice B m d] w (RetRow w 97 1 to.length (vlsV (liftRow fr to row))) := by
  obtain rfl := hr1.lenF
  obtain rfl := hr2.lenF
  obtain rfl := hv.lenV
  have hmk := run_make_row' (P := Try.prog) 43 97 .nilIface 16 Try.underlying43 (by kernel_rfl) rfl .i64 .i64 to.length (by omega) (by omega)
  go_enter Try.func26, Try.ntmps26
  go_wp2_with fail
  have x1 := box_new w #[.int .u32 (id1.toNat : Int), .slice A1 fr.length c1] 25
  generalize hwa : w.alloc (.cells #[.int .u32 (id1.toNat : Int), .slice A1 fr.length c1] 25) = wa at *
  have x2 := box_new wa #[.int .u32 (id2.toNat : Int), .slice A2 to.length c2] 25
  generalize hwb : wa.alloc (.cells #[.int .u32 (id2.toNat : Int), .slice A2 to.length c2] 25) = w2 at *
  have za := x1.size
  have zb := x2.size
  obtain ⟨cs, _, zs, hb2⟩ := x1.lift x2.below
  obtain ⟨cn, _, zn, _⟩ := x2.lift (Below.refl _ _)
  have s0 : w2.cell? ⟨w.heap.size, 0, none⟩ = some (.int .u32 (id1.toNat : Int)) := cs 0 _ rfl
  have s1 : w2.cell? ⟨w.heap.size, 1, none⟩ = some (.slice A1 fr.length c1) := cs 1 _ rfl
  have n1 : w2.cell? ⟨w.heap.size + 1, 1, none⟩ = some (.slice A2 to.length c2) := by rw [show w.heap.size + 1 = wa.heap.size by omega]; exact cn 1 _ rfl
  have zn' : w.heap.size + 1 < w2.heap.size := by omega
  have hq1 := (hr1.below hb2).more hb2.size
  have hq2 := (hr2.below hb2).more hb2.size
  have hqv := (hv.below hb2).more hb2.size
  clear hwa hwb cs cn x1 x2 zn
  have hown0 := own_lit w2 (base := w2.heap.size) 97 1 to.length (madeCells #[Value.nilIface] to.length) (Nat.le_refl _) (by unfold maxLen; omega) (by rw [size_madeCells]; omega)
  rw [made_nil] at hown0
  have hb0 : Below w2.heap.size w2 (w2.alloc (.cells (madeCells #[Value.nilIface] to.length) 97)) := (Below.refl _ _).alloc (Nat.le_refl _) _
  obtain ⟨w3, hw3⟩ : ∃ w3, w3 = w2.alloc (.cells (madeCells #[Value.nilIface] to.length) 97) := ⟨_, rfl⟩
  have hg : w.heap.size + 1 + 1 = w2.heap.size := by omega
  rw [← hw3] at hown0 hb0 ⊢
  rw [hg]
  clear hw3 hmk
  obtain ⟨g, hgg⟩ : ∃ g, g = w2.heap.size := ⟨_, rfl⟩
  rw [← hgg] at hown0 ⊢
  have hgg' : w2.heap.size ≤ g := Nat.le_of_eq hgg.symm
  have HG := hide hgg
  clear hgg hg
  obtain ⟨ba, hba⟩ : ∃ ba, ba = w.heap.size := ⟨_, rfl⟩
  obtain ⟨bb, hbb⟩ : ∃ bb, bb = w.heap.size + 1 := ⟨_, rfl⟩
  rw [← hbb] at n1 zn' ⊢
  rw [← hba] at s0 s1 zs ⊢
  have HBA := hide hba
  clear hba hbb
  go_loopw [19] (fun iv wr => ∃ (k : Nat) (L : List Vl), k ≤ to.length ∧ iv = .int .i64 (k : Int) ∧ L.length = to.length ∧ Hid (∀ j, j < k → L.getD j default = liftAt fr row (to.getD j default)) ∧ Hid (∀ j, k ≤ j → L.getD j default = .none) ∧
    wr.ownsRow g 97 1 (.slice (some ⟨g, 0, none⟩) to.length to.length) to.length (vlsV L) ∧ Below w2.heap.size w2 wr) (fun iv _ => to.length - (intOf iv).toNat)
  case atStart => exact ⟨0, _, Nat.zero_le _, rfl, by simp, hide (fun j h => by omega), hide (fun j _ => by simp [List.getD, List.getElem?_replicate]; split <;> rfl), hown0, hb0⟩
  case round =>
    obtain ⟨k, L, hk, rfl, hL, hf, hn, hown, hbr⟩ := hrel
    by_cases hlt : k < to.length
    · have hsz := hbr.size
      obtain ⟨b, off, rfl, hb, f0, f1, f2, f3⟩ := (hq2.below hbr).fd hlt
      generalize hff : to.getD k default = f at *
      have HF := hide hff
      clear hff
      have sa := (hbr.cell (p := ⟨ba, 0, none⟩) zs).trans s0
      have sb := (hbr.cell (p := ⟨ba, 1, none⟩) zs).trans s1
      have zbr : ba < wr.heap.size := Nat.lt_of_lt_of_le zs hsz
      have znr : ba ≠ wr.heap.size := Nat.ne_of_lt zbr
      go_wp2_with fail
      have xb := box_new wr #[.int .u32 (f.id.toNat : Int), .string f.name, .int .u8 (f.kind.toNat : Int), .bool f.need] 96
      generalize hw4 : wr.alloc (.cells #[.int .u32 (f.id.toNat : Int), .string f.name, .int .u8 (f.kind.toNat : Int), .bool f.need] 96) = w4 at *
      have hb4 : Below w2.heap.size w2 w4 := below_call hbr hsz xb.below
      have hown4 := own_below hown xb.below
      have hfr4 := (hq1.below hb4).more hb4.size
      have hidlt := f.id.toNat_lt
      clear f0 f1 f2 f3 hw4 xb sa sb zbr znr hown hbr hsz
      refine (schPlace w4 id1 _ c1 A1 fr hfr4 hm1 f.id.toNat hidlt).mono ?_
      rintro e w5 ⟨rfl, hb5⟩
      have hb5' : Below w2.heap.size w2 w5 := below_call hb4 hb4.size hb5
      have hown5 := own_below hown4 hb5
      have hrow5 := hqv.below hb5'
      clear hb4 hown4 hfr4 hb5
      have hPb := idxF_lt (fun g => (g.id.toNat : Int) == (f.id.toNat : Int)) fr
      have hlat : liftAt fr row f = if 0 ≤ placeOf f.id.toNat fr ∧ placeOf f.id.toNat fr < (row.length : Int) then row.getD (placeOf f.id.toNat fr).toNat default else .none := rfl
      have hLk : L.getD k default = .none := hn.out k (Nat.le_refl _)
      have hPP : placeOf f.id.toNat fr = idxF (fun g => (g.id.toNat : Int) == (f.id.toNat : Int)) fr := rfl
      rw [← hPP] at hPb
      generalize placeOf f.id.toNat fr = p at *
      have hnone : (¬ (0 ≤ p ∧ p < (row.length : Int))) → Hid (∀ j, j < k + 1 → L.getD j default = liftAt fr row (to.getD j default)) := fun h => hide (fun j hj => by
        by_cases e : j = k
        · rw [e, HF.out, hlat, if_neg h, hLk]
        · exact hf.out j (by omega))
      by_cases hp0 : 0 ≤ p
      · obtain ⟨q, rfl⟩ := Int.eq_ofNat_of_zero_le hp0
        have t1 : decide ((0 : Int) ≤ (q : Int)) = true := decide_eq_true hp0
        have t2 : max (q : Int) 0 = (q : Int) := Int.max_eq_left hp0
        rw [t1, t2]
        by_cases hq : q < row.length
        · have hq' : ((q : Int) < (row.length : Int)) := by omega
          obtain ⟨rb, roff, rfl, hrb, v0⟩ := hrow5.vl hq
          have hset : Hid (∀ j, j < k + 1 → (L.set k (row.getD q default)).getD j default = liftAt fr row (to.getD j default)) := hide (fun j hj => by
            by_cases e : j = k
            · rw [e, HF.out, hlat, if_pos ⟨hp0, hq'⟩, Int.toNat_natCast]
              simp [List.getD, show k < L.length by omega]
            · have := hf.out j (by omega)
              rw [← this]
              simp [List.getD, List.getElem?_set_ne (Ne.symm e)])
          have hrest : Hid (∀ j, k + 1 ≤ j → (L.set k (row.getD q default)).getD j default = .none) := hide (fun j hj => by
            have := hn.out j (by omega)
            rw [← this]
            simp [List.getD, List.getElem?_set_ne (show k ≠ j by omega)])
          generalize row.getD q default = v at *
          have hcell := hown5.cellAt k (by omega)
          rw [vlsV_get L k (by omega), hLk] at hcell
          have hfz := hown5.frozenAt k
          have hb6 := hb5'.setCell (p := ⟨g, k, none⟩) hgg' (vlV v)
          have hown6 := (hown5.stored k (vlV v)).1
          rw [← vlsV_set] at hown6
          have hL6 : (L.set k v).length = to.length := by rw [List.length_set]; exact hL
          clear hlat hnone hf hn hLk hPb hPP hp0 t1 t2 hb5' hown5 hrow5
          have HLL := hide hL
          clear hL
          cases v <;> simp only [vlV] at v0 hcell
          all_goals
            go_wp2_with fail
            go_roundw
            case rel => exact ⟨k + 1, _, hlt, by go_num, hL6, hset, hrest, hown6, hb6⟩
            case measure => exact meas_sub k _ hlt
        · have hq' : ¬ ((q : Int) < (row.length : Int)) := by omega
          have hdone := hnone (fun h => hq' h.2)
          have hrest : Hid (∀ j, k + 1 ≤ j → L.getD j default = .none) := hide (fun j hj => hn.out j (by omega))
          clear hlat hnone hf hn hLk hPb hPP hp0 t1 t2 hrow5
          go_wp2_with fail
          go_roundw
          case rel => exact ⟨k + 1, L, hlt, by go_num, hL, hdone, hrest, hown5, hb5'⟩
          case measure => exact meas_sub k _ hlt
      · obtain rfl : p = -1 := by omega
        have hdone := hnone (fun h => hp0 h.1)
        have hrest : Hid (∀ j, k + 1 ≤ j → L.getD j default = .none) := hide (fun j hj => hn.out j (by omega))
        have t1 : decide ((0 : Int) ≤ -1) = false := rfl
        have t2 : max (-1 : Int) 0 = 0 := rfl
        rw [t1, t2]
        clear hlat hnone hf hn hLk hPb hPP hp0 t1 t2 hrow5
        go_wp2_with fail
        go_roundw
        case rel => exact ⟨k + 1, L, hlt, by go_num, hL, hdone, hrest, hown5, hb5'⟩
        case measure => exact meas_sub k _ hlt
    · obtain rfl : k = to.length := by omega
      have hfin := liftRow_of hL hf.out
      subst hfin
      have HO := hide hown
      clear hown
      go_wp2_with fail
      go_ret
      refine ⟨_, rfl, own_base HO.out (by have := HG.out; have := HBA.out; omega), ?_⟩
      rw [← HBA.out] at hb2 ⊢
      exact below_call hb2 (Nat.le_of_lt zs) hbr
end Go.Proofs.Ytlccpchlclpnaaa
