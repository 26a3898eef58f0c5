/- THE WALKS of a schema's bytes: the program's Pack, the document's. No statement of the seat is proved here; no condition but the schema's size. -/
import Derived.Test.YtlccpchlclpnaaaPackP
import Derived.Test.YtlccpchlclpnaaaVarW
import Derived.Test.YtlccpchlclpnaaaAbs
import Derived.Test.YtlccpchlclpnaaaSchC
import Derived.Lib.AppendStr
namespace Go.Proofs.Ytlccpchlclpnaaa
open Go.RowKit

theorem row_below {w w' : World} {b : Nat} {o : Obj} (hT : w.heap[b]? = some o) (hb : Below w.heap.size w w') : w'.heap[b]? = some o :=
  (hb.block b (Array.getElem?_eq_some_iff.1 hT).1).trans hT
/-- a row of another type stands while one's own grows -/
theorem row_grown {w w' : World} {b base : Nat} {arr : Array Value} {t e : TypeId} {fr : Nat × Nat} {v : Value} {n sz : Nat} {xs : List Value} (hT : w.heap[b]? = some (.cells arr t fr)) (hown : w.ownsRow base e sz v n xs) (hg : w.grownBy w' v.ownBlock) (hne : e ≠ t) :
    w'.heap[b]? = some (.cells arr t fr) := by
  refine (hg.block b (Array.getElem?_eq_some_iff.1 hT).1 ?_).trans hT
  intro q
  rcases hown.2 with ⟨rfl, _⟩ | ⟨g, cap, cur, rfl, _, hgc, _⟩
  · cases q
  · simp only [Value.ownBlock] at q
    injection q with q
    subst q
    rw [hT] at hgc
    injection hgc with hgc
    injection hgc with _ q2 _
    exact hne q2.symm
def OwnB (B : Nat) (l : List UInt8) (v : Value) (w : World) : Prop := w.ownsRow B 5 1 v l.length (bytesV l)
theorem mono_ownB (B : Nat) (l : List UInt8) : (Slot.has (OwnB B l)).mono Ext := fun _ _ _ he h => own_below h he
theorem ownB_ret {w w' : World} {B : Nat} {l : List UInt8} {e : Ending} (h : RetBytes w l e w') (hB : B ≤ w.heap.size) : ∃ v, e = .returned v ∧ Ext w w' ∧ (Slot.has (OwnB B l)).holds v w' := by
  obtain ⟨v, rfl, ho, hb⟩ := h
  exact ⟨v, rfl, hb, own_base ho hB⟩
theorem bytesR_ret {w w' : World} {l : List UInt8} {e : Ending} (h : RetBytes w l e w') : ∃ v, e = .returned v ∧ Ext w w' ∧ (Slot.has (BytesR l)).holds v w' := by
  obtain ⟨v, h1, h2, h3⟩ := h
  exact bytes_ret h1 h2 h3
def Sized (l : List Fd) : Prop := l.length ≤ 1000000 ∧ ∀ j, j < l.length → (l.getD j default).name.size ≤ 1000000
/-- what holds at each round -/
def PR (wx : World) (id : UInt32) (l : List Fd) (v iv : Value) (wr : World) : Prop :=
  ∃ (k : Nat) (cur : List UInt8) (vb : Value), v = vb ∧ iv = .int .i64 (k : Int) ∧ k ≤ l.length ∧ wr.ownsRow wx.heap.size 5 1 vb cur.length (bytesV cur) ∧ Hid (cur = Var.put id.toNat ++ (Var.put l.length ++ packFs (l.take k))) ∧ cur.length ≤ 20 + k * 1000031 ∧ Below wx.heap.size wx wr
theorem packFs_take {l : List Fd} {k : Nat} (hk : k < l.length) : packFs (l.take (k + 1)) = packFs (l.take k) ++ packF (l.getD k default) := by
  rw [List.take_add_one, packFs_append]
  simp [hk, packFs, List.getD]
theorem cur_next {id : UInt32} {l : List Fd} {k : Nat} {cur c1 c2 c3 c4 c5 : List UInt8} (hk : k < l.length) (h : cur = Var.put id.toNat ++ (Var.put l.length ++ packFs (l.take k))) {f : Fd} (hf : f = l.getD k default)
    (h1 : c1 = cur ++ Var.put f.id.toNat) (h2 : c2 = c1 ++ Var.put f.name.size) (h3 : c3 = c2 ++ f.name.data.toList) (h4 : c4 = c3 ++ Var.put f.kind.toNat) (h5 : c5 = c4 ++ [if f.need then 1 else 0]) :
    c5 = Var.put id.toNat ++ (Var.put l.length ++ packFs (l.take (k + 1))) := by
  rw [packFs_take hk, ← hf, h5, h4, h3, h2, h1, h]
  unfold packF
  simp only [List.append_assoc]
set_option maxRecDepth 100000 in
set_option maxHeartbeats 4000000 in
theorem schPack (w : World) (id : UInt32) (n c : Nat) (A : Option Addr) (l : List Fd) (hr : Rd w w.heap.size 4 A n c (fdsV l)) (hsz : Sized l) :
    Calls Try.prog 31 #[.agg #[.int .u32 (id.toNat : Int), .slice A n c]] w (RetBytes w (pack id l)) := by
  obtain rfl := hr.lenF
  obtain ⟨hl6, hnm6⟩ := hsz
  have hidb : id.toNat < 4294967296 := id.toNat_lt
  go_enter Try.func31, Try.ntmps31
  go_wp2_with fail
  have x1 := box_new w #[.int .u32 (id.toNat : Int), .slice A l.length c] 25
  obtain ⟨wx, hwx⟩ : ∃ wx, wx = w.alloc (.cells #[.int .u32 (id.toNat : Int), .slice A l.length c] 25) := ⟨_, rfl⟩
  rw [← hwx] at x1 ⊢
  have s0 := x1.cell 0 _ rfl
  have s1 := x1.cell 1 _ rfl
  have zx : w.heap.size < wx.heap.size := by have := x1.size; omega
  have hrx := hr.below x1.below
  have hBx := x1.below
  obtain ⟨bx, hbx⟩ : ∃ bx, bx = w.heap.size := ⟨_, rfl⟩
  rw [← hbx] at s0 s1 zx hrx ⊢
  have HBX := hide hbx
  clear hwx x1 hr hbx
  have hp1 := Var.put_le10 (n := id.toNat) (by omega)
  have hp2 := Var.put_le10 (n := l.length) (by omega)
  have e32 : (id.toNat : Int) % 18446744073709551616 = (id.toNat : Int) := by omega
  have e33 : IntKind.u64.wrap (id.toNat : Int) = (id.toNat : Int) := by rw [IntKind.wrap_u64]; omega
  have e34 : (l.length : Int) % 18446744073709551616 = (l.length : Int) := by omega
  have e35 : IntKind.u64.wrap (l.length : Int) = (l.length : Int) := by rw [IntKind.wrap_u64]; omega
  refine wp_region_abs_tail 9 ext_grow (by kernel_rfl) (by kernel_rfl) ?_
  simp only [List.map_cons, List.map_nil, List.take_succ_cons, List.take_zero, List.drop_succ_cons, List.drop_zero]
  refine wpA_value ext_grow ?_ (fun _ _ h => by cases h) rfl rfl ?_ ?_
  rotate_left 1
  · intro w' hw' C hC
    go_simp
    try go_bits
    exact hC
  simp only [putS, List.set_cons_succ, List.set_cons_zero]
  refine wpA_value ext_grow ?_ (fun _ _ h => by cases h) rfl rfl ?_ ?_
  rotate_left 1
  · intro w' hw' C hC
    have q := (hw'.cell (p := ⟨bx, 0, none⟩) zx).trans s0
    go_simp
    try go_bits
    exact hC
  simp only [putS, List.set_cons_succ, List.set_cons_zero]
  refine wpA_value ext_grow ?_ (fun _ _ h => by cases h) rfl rfl ?_ ?_
  rotate_left 1
  · intro w' hw' C hC
    have q := e33
    go_simp
    try go_bits
    exact hC
  simp only [putS, List.set_cons_succ, List.set_cons_zero]
  refine wpA_known (.has (OwnB wx.heap.size (Var.put id.toNat))) (fun _ _ h => by cases h) rfl rfl (mono_ownB _ _) (fun w' hw' => ?_) ?_
  · go_simp
    exact ⟨Below.refl _ _, (varPut (id.toNat : Int) w' (by omega) (by omega)).mono fun e w'' h => ownB_ret (by rw [Int.toNat_natCast] at h; exact h) hw'.size⟩
  simp only [putS, List.set_cons_succ, List.set_cons_zero]
  refine wpA_value ext_grow ?_ (fun _ _ h => by cases h) rfl rfl ?_ ?_
  rotate_left 1
  · intro w' hw' C hC
    go_simp
    try go_bits
    exact hC
  simp only [putS, List.set_cons_succ, List.set_cons_zero]
  refine wpA_value ext_grow ?_ (fun _ _ h => by cases h) rfl rfl ?_ ?_
  rotate_left 1
  · intro w' hw' C hC
    have q := (hw'.cell (p := ⟨bx, 1, none⟩) zx).trans s1
    go_simp
    try go_bits
    exact hC
  simp only [putS, List.set_cons_succ, List.set_cons_zero]
  refine wpA_value ext_grow ?_ (fun _ _ h => by cases h) rfl rfl ?_ ?_
  rotate_left 1
  · intro w' hw' C hC
    go_simp
    try go_bits
    exact hC
  simp only [putS, List.set_cons_succ, List.set_cons_zero]
  refine wpA_value ext_grow ?_ (fun _ _ h => by cases h) rfl rfl ?_ ?_
  rotate_left 1
  · intro w' hw' C hC
    have q := e35
    go_simp
    try go_bits
    exact hC
  simp only [putS, List.set_cons_succ, List.set_cons_zero]
  refine wpA_known (.has (BytesR (Var.put l.length))) (fun _ _ h => by cases h) rfl rfl (mono_bytes _) (fun w' hw' => ?_) ?_
  · go_simp
    exact ⟨Below.refl _ _, (varPut (l.length : Int) w' (by omega) (by omega)).mono fun e w'' h => bytesR_ret (by rw [Int.toNat_natCast] at h; exact h)⟩
  simp only [putS, List.set_cons_succ, List.set_cons_zero]
  intro wA hwA
  simp only [openS]
  intro vo ho vl hvl
  obtain ⟨Al, cl, rfl, hl⟩ := hvl
  have hbA : Below wx.heap.size wx wA := below_of_drew hwA
  have ho : wA.ownsRow wx.heap.size 5 1 vo (Var.put id.toNat).length (bytesV (Var.put id.toNat)) := ho
  clear hwA e32 e33 e34 e35
  go_wp2_with (at_builtin; refine wpList_app _ tyBytes rfl (.tmp 10) (.tmp 15) rfl wx.heap.size _ _ _ rfl ho wA.heap.size Al _ cl _ rfl hl (bytesV_one _) (by omega) hbA.size ?_; intro v2 wB hown hg _; have hbB := below_app hbA (Nat.le_refl _) ho hg hbA.size; have s1B := (hbB.cell (p := ⟨bx, 1, none⟩) zx).trans s1; clear hg)
  have hown0 : wB.ownsRow wx.heap.size 5 1 v2 (Var.put id.toNat ++ (Var.put l.length ++ packFs (l.take 0))).length (bytesV (Var.put id.toNat ++ (Var.put l.length ++ packFs (l.take 0)))) := by
    simp only [List.take_zero, packFs, List.flatMap_nil, List.append_nil]
    rw [List.length_append, bytesV_append]
    exact hown
  clear hown ho hl hbA
  go_loopw [3, 20] (PR wx id l) (fun _ iv _ => l.length - (intOf iv).toNat)
  case atStart => exact ⟨0, _, _, rfl, rfl, Nat.zero_le _, hown0, hide rfl, by simp [packFs]; omega, hbB⟩
  case round =>
    clear hown0 hbB
    obtain ⟨k, cur, vb, rfl, rfl, hk, hown, hcur, hlen, hbr⟩ := hrel
    have s1r := (hbr.cell (p := ⟨bx, 1, none⟩) zx).trans s1
    by_cases hlt : k < l.length
    · obtain ⟨b0, off, rfl, hb0, f0, f1, f2, f3⟩ := (hrx.below' hbr (Nat.le_of_lt zx)).fd hlt
      have hfn := hnm6 k hlt
      obtain ⟨f, hf⟩ : ∃ f, f = l.getD k default := ⟨_, rfl⟩
      rw [← hf] at f0 f1 f2 f3 hfn
      have HF := hide hf
      have HN := hide hfn
      have hfid := f.id.toNat_lt
      have hfkd := f.kind.toNat_lt
      have q1 := Var.put_le10 (n := f.id.toNat) (by omega)
      have q2 := Var.put_le10 (n := f.name.size) (by omega)
      have q3 := Var.put_le10 (n := f.kind.toNat) (by omega)
      have q4 : f.name.data.toList.length = f.name.size := by simp
      have m1 : (f.name.size : Int) % 18446744073709551616 = (f.name.size : Int) := by omega
      have HQ := hide (And.intro q1 (And.intro q2 (And.intro q3 q4)))
      clear hf q1 q2 q3 q4 hfn
      go_wp2_with fail
      have hT := heap_alloc_new wr (.cells #[.int .u32 (f.id.toNat : Int), .string f.name, .int .u8 (f.kind.toNat : Int), .bool f.need] 96)
      have hown1 := hown.alloc (.cells #[.int .u32 (f.id.toNat : Int), .string f.name, .int .u8 (f.kind.toNat : Int), .bool f.need] 96)
      have hb1 := hbr.alloc hbr.size (.cells #[.int .u32 (f.id.toNat : Int), .string f.name, .int .u8 (f.kind.toNat : Int), .bool f.need] 96)
      generalize wr.alloc (.cells #[.int .u32 (f.id.toNat : Int), .string f.name, .int .u8 (f.kind.toNat : Int), .bool f.need] 96) = w1 at *
      generalize wr.heap.size = bf at *
      clear f0 f1 f2 f3 hown hbr s1r
      have g10 := cell_of_row w1 bf 0 _ _ _ hT
      simp at g10
      go_wp2_with fail
      refine (varPut (f.id.toNat : Int) w1 (by omega) (by omega)).mono ?_
      rintro e w2 ⟨vp, rfl, hop, hbp⟩
      rw [Int.toNat_natCast] at hop
      obtain ⟨pA, pc, rfl, hrp⟩ := Rd.of_own hop
      have hT2 := row_below hT hbp
      have hown2 := own_below hown1 hbp
      have hb2 := below_call hb1 hb1.size hbp
      have zz2 := hb2.size
      clear hop hbp hown1 hb1 hT
      obtain ⟨ti, hti, hti1, hti2, hti3⟩ := info_parts tyBytes.inf
      go_wp2_with (at_builtin; refine wpList_app _ tyBytes rfl (.tmp 24) (.tmp 28) rfl wx.heap.size _ _ _ rfl hown2 w2.heap.size pA _ pc _ rfl hrp (bytesV_one _) (by have := HQ.out.1; omega) hb2.size ?_; intro v3 w3 ho hg _; have hb3 := below_app hb2 (Nat.le_refl _) hown2 hg hb2.size; have hT3 := row_grown hT2 hown2 hg (by decide); obtain ⟨c1, hc1⟩ : ∃ c, c = cur ++ Var.put f.id.toNat := ⟨_, rfl⟩; have hown3 : w3.ownsRow wx.heap.size 5 1 v3 c1.length (bytesV c1) := (by rw [hc1, List.length_append, bytesV_append]; exact ho); have hlc1 : c1.length = cur.length + (Var.put f.id.toNat).length := (by rw [hc1, List.length_append]); have Hc1 := hide hc1; have HLc1 := hide hlc1; have g31 := cell_of_row w3 bf 1 _ _ _ hT3; simp at g31; clear ho hg hc1 hlc1)
      refine (varPut (f.name.size : Int) w3 (by omega) (by have := HN.out; omega)).mono ?_
      rintro e w4 ⟨vp, rfl, hop, hbp⟩
      rw [Int.toNat_natCast] at hop
      obtain ⟨pA, pc, rfl, hrp⟩ := Rd.of_own hop
      have hT4 := row_below hT3 hbp
      have hown4 := own_below hown3 hbp
      have hb4 := below_call hb3 hb3.size hbp
      have zz4 := hb4.size
      clear hop hbp hown3 hb3 hT3
      go_wp2_with (first | (at_builtin; refine wpList_app _ tyBytes rfl (.tmp 30) (.tmp 35) rfl wx.heap.size _ _ _ rfl hown4 w4.heap.size pA _ pc _ rfl hrp (bytesV_one _) (by have := HQ.out; have := HN.out; have := HLc1.out; omega) hb4.size ?_; intro v5 w5 ho hg _; have hb5 := below_app hb4 (Nat.le_refl _) hown4 hg hb4.size; have hT5 := row_grown hT4 hown4 hg (by decide); obtain ⟨c2, hc2⟩ : ∃ c, c = c1 ++ Var.put f.name.size := ⟨_, rfl⟩; have hown5 : w5.ownsRow wx.heap.size 5 1 v5 c2.length (bytesV c2) := (by rw [hc2, List.length_append, bytesV_append]; exact ho); have hlc2 : c2.length = c1.length + (Var.put f.name.size).length := (by rw [hc2, List.length_append]); have Hc2 := hide hc2; have HLc2 := hide hlc2; have g51 := cell_of_row w5 bf 1 _ _ _ hT5; simp at g51; clear ho hg hc2 hlc2) | (at_builtin; refine Go.Lib.wpList_append_own_string _ rfl (.tmp 37) (.tmp 39) 54 9 rfl wx.heap.size 5 ti Try.underlying54 Try.underlying9 hti hti1 hti2 hti3 _ _ _ rfl hown5 f.name rfl (by have := HLc2.out; have := HQ.out; have := HN.out; have := HLc1.out; unfold maxLen; omega) (by have := HLc2.out; have := HQ.out; have := HN.out; have := HLc1.out; omega) hb5.size ?_; intro v6 w6 ho hg _; have hb6 := below_app hb5 (Nat.le_refl _) hown5 hg hb5.size; have hT6 := row_grown hT5 hown5 hg (by decide); obtain ⟨c3, hc3⟩ : ∃ c, c = c2 ++ f.name.data.toList := ⟨_, rfl⟩; have hown6 : w6.ownsRow wx.heap.size 5 1 v6 c3.length (bytesV c3) := (by rw [hc3, List.length_append, bytesV_append]; exact ho); have hlc3 : c3.length = c2.length + f.name.size := (by rw [hc3, List.length_append, HQ.out.2.2.2]); have Hc3 := hide hc3; have HLc3 := hide hlc3; have g62 := cell_of_row w6 bf 2 _ _ _ hT6; simp at g62; clear ho hg hc3 hlc3))
      refine (varPut (f.kind.toNat : Int) w6 (by omega) (by omega)).mono ?_
      rintro e w7 ⟨vp, rfl, hop, hbp⟩
      rw [Int.toNat_natCast] at hop
      obtain ⟨pA, pc, rfl, hrp⟩ := Rd.of_own hop
      have hT7 := row_below hT6 hbp
      have hown7 := own_below hown6 hbp
      have hb7 := below_call hb6 hb6.size hbp
      have zz7 := hb7.size
      clear hop hbp hown6 hb6 hT6
      obtain ⟨nd, hnd⟩ : ∃ nd, nd = f.need := ⟨_, rfl⟩
      rw [← hnd] at hT7
      have HND := hide hnd
      clear hnd
      cases nd with
      | true =>
        go_wp2_with (first | (at_builtin; refine wpList_app _ tyBytes rfl (.tmp 41) (.tmp 45) rfl wx.heap.size _ _ _ rfl hown7 w7.heap.size pA _ pc _ rfl hrp (bytesV_one _) (by have := HQ.out; have := HN.out; have := HLc1.out; have := HLc2.out; have := HLc3.out; omega) hb7.size ?_; intro v8 w8 ho hg _; have hb8 := below_app hb7 (Nat.le_refl _) hown7 hg hb7.size; have hT8 := row_grown hT7 hown7 hg (by decide); obtain ⟨c4, hc4⟩ : ∃ c, c = c3 ++ Var.put f.kind.toNat := ⟨_, rfl⟩; have hown8 : w8.ownsRow wx.heap.size 5 1 v8 c4.length (bytesV c4) := (by rw [hc4, List.length_append, bytesV_append]; exact ho); have hlc4 : c4.length = c3.length + (Var.put f.kind.toNat).length := (by rw [hc4, List.length_append]); have Hc4 := hide hc4; have HLc4 := hide hlc4; have g83 := cell_of_row w8 bf 3 _ _ _ hT8; simp at g83; clear ho hg hc4 hlc4) | (at_builtin; have hownL := hown8.alloc (.cells #[.int .u8 1] 5); have hlit : Rd (w8.alloc (.cells #[.int .u8 1] 5)) (w8.heap.size + 1) 1 (some ⟨w8.heap.size, 0, none⟩) 1 1 (bytesV [if true then 1 else 0]) := Rd.lit w8 5 #[.int .u8 1] (n := 1) (sz := 1) rfl (by decide); refine wpList_app _ tyBytes rfl (.tmp 49) (.tmp 51) rfl wx.heap.size _ _ _ rfl hownL (w8.heap.size + 1) _ 1 1 _ rfl hlit (bytesV_one _) (by have := HQ.out; have := HN.out; have := HLc1.out; have := HLc2.out; have := HLc3.out; have := HLc4.out; omega) (by simp; have := hb8.size; omega) ?_; intro v9 w9 ho hg _; have hbL := hb8.alloc hb8.size (.cells #[.int .u8 1] 5); have hb9 := below_app hbL (Nat.le_refl _) hownL hg (by simp; have := hb8.size; omega); obtain ⟨c5, hc5⟩ : ∃ c, c = c4 ++ [if true then 1 else 0] := ⟨_, rfl⟩; have hown9 : w9.ownsRow wx.heap.size 5 1 v9 c5.length (bytesV c5) := (by rw [hc5, List.length_append, bytesV_append]; exact ho); have Hc5 := hide hc5; clear ho hg hc5 hlit hownL hbL))
        go_roundw
        case rel =>
          refine ⟨k + 1, c5, v9, rfl, by go_num, by omega, hown9, hide (cur_next hlt hcur.out HF.out Hc1.out Hc2.out Hc3.out Hc4.out (by rw [← HND.out]; exact Hc5.out)), ?_, hb9⟩
          have := HLc1.out
          have := HLc2.out
          have := HLc3.out
          have := HLc4.out
          have := HQ.out
          have := HN.out
          rw [Hc5.out, List.length_append]
          simp only [List.length_cons, List.length_nil]
          omega
        case measure => exact meas_sub k _ hlt
      | false =>
        go_wp2_with (first | (at_builtin; refine wpList_app _ tyBytes rfl (.tmp 41) (.tmp 45) rfl wx.heap.size _ _ _ rfl hown7 w7.heap.size pA _ pc _ rfl hrp (bytesV_one _) (by have := HQ.out; have := HN.out; have := HLc1.out; have := HLc2.out; have := HLc3.out; omega) hb7.size ?_; intro v8 w8 ho hg _; have hb8 := below_app hb7 (Nat.le_refl _) hown7 hg hb7.size; have hT8 := row_grown hT7 hown7 hg (by decide); obtain ⟨c4, hc4⟩ : ∃ c, c = c3 ++ Var.put f.kind.toNat := ⟨_, rfl⟩; have hown8 : w8.ownsRow wx.heap.size 5 1 v8 c4.length (bytesV c4) := (by rw [hc4, List.length_append, bytesV_append]; exact ho); have hlc4 : c4.length = c3.length + (Var.put f.kind.toNat).length := (by rw [hc4, List.length_append]); have Hc4 := hide hc4; have HLc4 := hide hlc4; have g83 := cell_of_row w8 bf 3 _ _ _ hT8; simp at g83; clear ho hg hc4 hlc4) | (at_builtin; have hownL := hown8.alloc (.cells #[.int .u8 0] 5); have hlit : Rd (w8.alloc (.cells #[.int .u8 0] 5)) (w8.heap.size + 1) 1 (some ⟨w8.heap.size, 0, none⟩) 1 1 (bytesV [if false then 1 else 0]) := Rd.lit w8 5 #[.int .u8 0] (n := 1) (sz := 1) rfl (by decide); refine wpList_app _ tyBytes rfl (.tmp 49) (.tmp 51) rfl wx.heap.size _ _ _ rfl hownL (w8.heap.size + 1) _ 1 1 _ rfl hlit (bytesV_one _) (by have := HQ.out; have := HN.out; have := HLc1.out; have := HLc2.out; have := HLc3.out; have := HLc4.out; omega) (by simp; have := hb8.size; omega) ?_; intro v9 w9 ho hg _; have hbL := hb8.alloc hb8.size (.cells #[.int .u8 0] 5); have hb9 := below_app hbL (Nat.le_refl _) hownL hg (by simp; have := hb8.size; omega); obtain ⟨c5, hc5⟩ : ∃ c, c = c4 ++ [if false then 1 else 0] := ⟨_, rfl⟩; have hown9 : w9.ownsRow wx.heap.size 5 1 v9 c5.length (bytesV c5) := (by rw [hc5, List.length_append, bytesV_append]; exact ho); have Hc5 := hide hc5; clear ho hg hc5 hlit hownL hbL))
        go_roundw
        case rel =>
          refine ⟨k + 1, c5, v9, rfl, by go_num, by omega, hown9, hide (cur_next hlt hcur.out HF.out Hc1.out Hc2.out Hc3.out Hc4.out (by rw [← HND.out]; exact Hc5.out)), ?_, hb9⟩
          have := HLc1.out
          have := HLc2.out
          have := HLc3.out
          have := HLc4.out
          have := HQ.out
          have := HN.out
          rw [Hc5.out, List.length_append]
          simp only [List.length_cons, List.length_nil]
          omega
        case measure => exact meas_sub k _ hlt
    · have hlt2 : ¬ k < l.length := hlt
      go_wp2_with fail
      go_ret
      refine ⟨_, rfl, ?_, hBx.trans (hbr.mono (Nat.le_of_lt (by have := zx; rw [HBX.out] at this; exact this)))⟩
      have hc := hcur.out
      rw [show k = l.length by omega, List.take_length] at hc
      have e1 : pack id l = cur := by rw [hc]; rfl
      rw [e1]
      exact own_base hown (Nat.le_of_lt (by have := zx; rw [HBX.out] at this; exact this))
set_option maxRecDepth 100000 in
set_option maxHeartbeats 4000000 in
theorem refPack (w : World) (id : UInt32) (n c : Nat) (A : Option Addr) (l : List Fd) (hr : Rd w w.heap.size 4 A n c (fdsV l)) (hsz : Sized l) :
    Calls Try.prog 32 #[.agg #[.int .u32 (id.toNat : Int), .slice A n c]] w (RetBytes w (pack id l)) := by
  obtain rfl := hr.lenF
  obtain ⟨hl6, hnm6⟩ := hsz
  have hidb : id.toNat < 4294967296 := id.toNat_lt
  go_enter Try.func32, Try.ntmps32
  go_wp2_with fail
  have x1 := box_new w #[.int .u32 (id.toNat : Int), .slice A l.length c] 25
  obtain ⟨wx, hwx⟩ : ∃ wx, wx = w.alloc (.cells #[.int .u32 (id.toNat : Int), .slice A l.length c] 25) := ⟨_, rfl⟩
  rw [← hwx] at x1 ⊢
  have s0 := x1.cell 0 _ rfl
  have s1 := x1.cell 1 _ rfl
  have zx : w.heap.size < wx.heap.size := by have := x1.size; omega
  have hrx := hr.below x1.below
  have hBx := x1.below
  obtain ⟨bx, hbx⟩ : ∃ bx, bx = w.heap.size := ⟨_, rfl⟩
  rw [← hbx] at s0 s1 zx hrx ⊢
  have HBX := hide hbx
  clear hwx x1 hr hbx
  have hp1 := Var.put_le10 (n := id.toNat) (by omega)
  have hp2 := Var.put_le10 (n := l.length) (by omega)
  refine (refPut (id.toNat : Int) wx (by omega) (by omega)).mono ?_
  rintro e w1 ⟨v1, rfl, ho1, hb1⟩
  rw [Int.toNat_natCast] at ho1
  have s11 := (hb1.cell (p := ⟨bx, 1, none⟩) zx).trans s1
  go_wp2_with fail
  refine (refPut (l.length : Int) w1 (by omega) (by omega)).mono ?_
  rintro e wA ⟨v2, rfl, ho2, hb2⟩
  rw [Int.toNat_natCast] at ho2
  obtain ⟨Al, cl, rfl, hl⟩ := Rd.of_own ho2
  have hbA : Below wx.heap.size wx wA := below_call hb1 hb1.size hb2
  have ho := own_below ho1 hb2
  clear ho1 ho2 hb1 hb2 s11
  go_wp2_with (at_builtin; refine wpList_app _ tyBytes rfl (.tmp 10) (.tmp 15) rfl wx.heap.size _ _ _ rfl ho wA.heap.size Al _ cl _ rfl hl (bytesV_one _) (by omega) hbA.size ?_; intro v2 wB hown hg _; have hbB := below_app hbA (Nat.le_refl _) ho hg hbA.size; clear hg)
  have hown0 : wB.ownsRow wx.heap.size 5 1 v2 (Var.put id.toNat ++ (Var.put l.length ++ packFs (l.take 0))).length (bytesV (Var.put id.toNat ++ (Var.put l.length ++ packFs (l.take 0)))) := by
    simp only [List.take_zero, packFs, List.flatMap_nil, List.append_nil]
    rw [List.length_append, bytesV_append]
    exact hown
  clear hown ho hl hbA
  go_loopw [3, 4] (PR wx id l) (fun _ iv _ => l.length - (intOf iv).toNat)
  case atStart => exact ⟨0, _, _, rfl, rfl, Nat.zero_le _, hown0, hide rfl, by simp [packFs]; omega, hbB⟩
  case round =>
    clear hown0 hbB
    obtain ⟨k, cur, vb, rfl, rfl, hk, hown, hcur, hlen, hbr⟩ := hrel
    have s1r := (hbr.cell (p := ⟨bx, 1, none⟩) zx).trans s1
    by_cases hlt : k < l.length
    · obtain ⟨b0, off, rfl, hb0, f0, f1, f2, f3⟩ := (hrx.below' hbr (Nat.le_of_lt zx)).fd hlt
      have hfn := hnm6 k hlt
      obtain ⟨f, hf⟩ : ∃ f, f = l.getD k default := ⟨_, rfl⟩
      rw [← hf] at f0 f1 f2 f3 hfn
      have HF := hide hf
      have HN := hide hfn
      have hfid := f.id.toNat_lt
      have hfkd := f.kind.toNat_lt
      have q1 := Var.put_le10 (n := f.id.toNat) (by omega)
      have q2 := Var.put_le10 (n := f.name.size) (by omega)
      have q3 := Var.put_le10 (n := f.kind.toNat) (by omega)
      have q4 : f.name.data.toList.length = f.name.size := by simp
      have m1 : (f.name.size : Int) % 18446744073709551616 = (f.name.size : Int) := by omega
      have HQ := hide (And.intro q1 (And.intro q2 (And.intro q3 q4)))
      clear hf q1 q2 q3 q4 hfn
      go_wp2_with fail
      have hT := heap_alloc_new wr (.cells #[.int .u32 (f.id.toNat : Int), .string f.name, .int .u8 (f.kind.toNat : Int), .bool f.need] 96)
      have hown1 := hown.alloc (.cells #[.int .u32 (f.id.toNat : Int), .string f.name, .int .u8 (f.kind.toNat : Int), .bool f.need] 96)
      have hb1 := hbr.alloc hbr.size (.cells #[.int .u32 (f.id.toNat : Int), .string f.name, .int .u8 (f.kind.toNat : Int), .bool f.need] 96)
      generalize wr.alloc (.cells #[.int .u32 (f.id.toNat : Int), .string f.name, .int .u8 (f.kind.toNat : Int), .bool f.need] 96) = w1 at *
      generalize wr.heap.size = bf at *
      clear f0 f1 f2 f3 hown hbr s1r
      have g10 := cell_of_row w1 bf 0 _ _ _ hT
      simp at g10
      go_wp2_with fail
      refine (refPut (f.id.toNat : Int) w1 (by omega) (by omega)).mono ?_
      rintro e w2 ⟨vp, rfl, hop, hbp⟩
      rw [Int.toNat_natCast] at hop
      obtain ⟨pA, pc, rfl, hrp⟩ := Rd.of_own hop
      have hT2 := row_below hT hbp
      have hown2 := own_below hown1 hbp
      have hb2 := below_call hb1 hb1.size hbp
      have zz2 := hb2.size
      clear hop hbp hown1 hb1 hT
      obtain ⟨ti, hti, hti1, hti2, hti3⟩ := info_parts tyBytes.inf
      go_wp2_with (at_builtin; refine wpList_app _ tyBytes rfl (.tmp 29) (.tmp 33) rfl wx.heap.size _ _ _ rfl hown2 w2.heap.size pA _ pc _ rfl hrp (bytesV_one _) (by have := HQ.out.1; omega) hb2.size ?_; intro v3 w3 ho hg _; have hb3 := below_app hb2 (Nat.le_refl _) hown2 hg hb2.size; have hT3 := row_grown hT2 hown2 hg (by decide); obtain ⟨c1, hc1⟩ : ∃ c, c = cur ++ Var.put f.id.toNat := ⟨_, rfl⟩; have hown3 : w3.ownsRow wx.heap.size 5 1 v3 c1.length (bytesV c1) := (by rw [hc1, List.length_append, bytesV_append]; exact ho); have hlc1 : c1.length = cur.length + (Var.put f.id.toNat).length := (by rw [hc1, List.length_append]); have Hc1 := hide hc1; have HLc1 := hide hlc1; have g31 := cell_of_row w3 bf 1 _ _ _ hT3; simp at g31; clear ho hg hc1 hlc1)
      refine (refPut (f.name.size : Int) w3 (by omega) (by have := HN.out; omega)).mono ?_
      rintro e w4 ⟨vp, rfl, hop, hbp⟩
      rw [Int.toNat_natCast] at hop
      obtain ⟨pA, pc, rfl, hrp⟩ := Rd.of_own hop
      have hT4 := row_below hT3 hbp
      have hown4 := own_below hown3 hbp
      have hb4 := below_call hb3 hb3.size hbp
      have zz4 := hb4.size
      clear hop hbp hown3 hb3 hT3
      go_wp2_with (first | (at_builtin; refine wpList_app _ tyBytes rfl (.tmp 35) (.tmp 40) rfl wx.heap.size _ _ _ rfl hown4 w4.heap.size pA _ pc _ rfl hrp (bytesV_one _) (by have := HQ.out; have := HN.out; have := HLc1.out; omega) hb4.size ?_; intro v5 w5 ho hg _; have hb5 := below_app hb4 (Nat.le_refl _) hown4 hg hb4.size; have hT5 := row_grown hT4 hown4 hg (by decide); obtain ⟨c2, hc2⟩ : ∃ c, c = c1 ++ Var.put f.name.size := ⟨_, rfl⟩; have hown5 : w5.ownsRow wx.heap.size 5 1 v5 c2.length (bytesV c2) := (by rw [hc2, List.length_append, bytesV_append]; exact ho); have hlc2 : c2.length = c1.length + (Var.put f.name.size).length := (by rw [hc2, List.length_append]); have Hc2 := hide hc2; have HLc2 := hide hlc2; have g51 := cell_of_row w5 bf 1 _ _ _ hT5; simp at g51; clear ho hg hc2 hlc2) | (at_builtin; refine Go.Lib.wpList_append_own_string _ rfl (.tmp 42) (.tmp 44) 54 9 rfl wx.heap.size 5 ti Try.underlying54 Try.underlying9 hti hti1 hti2 hti3 _ _ _ rfl hown5 f.name rfl (by have := HLc2.out; have := HQ.out; have := HN.out; have := HLc1.out; unfold maxLen; omega) (by have := HLc2.out; have := HQ.out; have := HN.out; have := HLc1.out; omega) hb5.size ?_; intro v6 w6 ho hg _; have hb6 := below_app hb5 (Nat.le_refl _) hown5 hg hb5.size; have hT6 := row_grown hT5 hown5 hg (by decide); obtain ⟨c3, hc3⟩ : ∃ c, c = c2 ++ f.name.data.toList := ⟨_, rfl⟩; have hown6 : w6.ownsRow wx.heap.size 5 1 v6 c3.length (bytesV c3) := (by rw [hc3, List.length_append, bytesV_append]; exact ho); have hlc3 : c3.length = c2.length + f.name.size := (by rw [hc3, List.length_append, HQ.out.2.2.2]); have Hc3 := hide hc3; have HLc3 := hide hlc3; have g62 := cell_of_row w6 bf 2 _ _ _ hT6; simp at g62; clear ho hg hc3 hlc3))
      refine (refPut (f.kind.toNat : Int) w6 (by omega) (by omega)).mono ?_
      rintro e w7 ⟨vp, rfl, hop, hbp⟩
      rw [Int.toNat_natCast] at hop
      obtain ⟨pA, pc, rfl, hrp⟩ := Rd.of_own hop
      have hT7 := row_below hT6 hbp
      have hown7 := own_below hown6 hbp
      have hb7 := below_call hb6 hb6.size hbp
      have zz7 := hb7.size
      clear hop hbp hown6 hb6 hT6
      obtain ⟨nd, hnd⟩ : ∃ nd, nd = f.need := ⟨_, rfl⟩
      rw [← hnd] at hT7
      have HND := hide hnd
      clear hnd
      cases nd with
      | true =>
        go_wp2_with (first | (at_builtin; refine wpList_app _ tyBytes rfl (.tmp 46) (.tmp 50) rfl wx.heap.size _ _ _ rfl hown7 w7.heap.size pA _ pc _ rfl hrp (bytesV_one _) (by have := HQ.out; have := HN.out; have := HLc1.out; have := HLc2.out; have := HLc3.out; omega) hb7.size ?_; intro v8 w8 ho hg _; have hb8 := below_app hb7 (Nat.le_refl _) hown7 hg hb7.size; have hT8 := row_grown hT7 hown7 hg (by decide); obtain ⟨c4, hc4⟩ : ∃ c, c = c3 ++ Var.put f.kind.toNat := ⟨_, rfl⟩; have hown8 : w8.ownsRow wx.heap.size 5 1 v8 c4.length (bytesV c4) := (by rw [hc4, List.length_append, bytesV_append]; exact ho); have hlc4 : c4.length = c3.length + (Var.put f.kind.toNat).length := (by rw [hc4, List.length_append]); have Hc4 := hide hc4; have HLc4 := hide hlc4; have g83 := cell_of_row w8 bf 3 _ _ _ hT8; simp at g83; clear ho hg hc4 hlc4) | (at_builtin; have hownL := hown8.alloc (.cells #[.int .u8 1] 5); have hlit : Rd (w8.alloc (.cells #[.int .u8 1] 5)) (w8.heap.size + 1) 1 (some ⟨w8.heap.size, 0, none⟩) 1 1 (bytesV [if true then 1 else 0]) := Rd.lit w8 5 #[.int .u8 1] (n := 1) (sz := 1) rfl (by decide); refine wpList_app _ tyBytes rfl (.tmp 54) (.tmp 55) rfl wx.heap.size _ _ _ rfl hownL (w8.heap.size + 1) _ 1 1 _ rfl hlit (bytesV_one _) (by have := HQ.out; have := HN.out; have := HLc1.out; have := HLc2.out; have := HLc3.out; have := HLc4.out; omega) (by simp; have := hb8.size; omega) ?_; intro v9 w9 ho hg _; have hbL := hb8.alloc hb8.size (.cells #[.int .u8 1] 5); have hb9 := below_app hbL (Nat.le_refl _) hownL hg (by simp; have := hb8.size; omega); obtain ⟨c5, hc5⟩ : ∃ c, c = c4 ++ [if true then 1 else 0] := ⟨_, rfl⟩; have hown9 : w9.ownsRow wx.heap.size 5 1 v9 c5.length (bytesV c5) := (by rw [hc5, List.length_append, bytesV_append]; exact ho); have Hc5 := hide hc5; clear ho hg hc5 hlit hownL hbL))
        go_roundw
        case rel =>
          refine ⟨k + 1, c5, v9, rfl, by go_num, by omega, hown9, hide (cur_next hlt hcur.out HF.out Hc1.out Hc2.out Hc3.out Hc4.out (by rw [← HND.out]; exact Hc5.out)), ?_, hb9⟩
          have := HLc1.out
          have := HLc2.out
          have := HLc3.out
          have := HLc4.out
          have := HQ.out
          have := HN.out
          rw [Hc5.out, List.length_append]
          simp only [List.length_cons, List.length_nil]
          omega
        case measure => exact meas_sub k _ hlt
      | false =>
        go_wp2_with (first | (at_builtin; refine wpList_app _ tyBytes rfl (.tmp 46) (.tmp 50) rfl wx.heap.size _ _ _ rfl hown7 w7.heap.size pA _ pc _ rfl hrp (bytesV_one _) (by have := HQ.out; have := HN.out; have := HLc1.out; have := HLc2.out; have := HLc3.out; omega) hb7.size ?_; intro v8 w8 ho hg _; have hb8 := below_app hb7 (Nat.le_refl _) hown7 hg hb7.size; have hT8 := row_grown hT7 hown7 hg (by decide); obtain ⟨c4, hc4⟩ : ∃ c, c = c3 ++ Var.put f.kind.toNat := ⟨_, rfl⟩; have hown8 : w8.ownsRow wx.heap.size 5 1 v8 c4.length (bytesV c4) := (by rw [hc4, List.length_append, bytesV_append]; exact ho); have hlc4 : c4.length = c3.length + (Var.put f.kind.toNat).length := (by rw [hc4, List.length_append]); have Hc4 := hide hc4; have HLc4 := hide hlc4; have g83 := cell_of_row w8 bf 3 _ _ _ hT8; simp at g83; clear ho hg hc4 hlc4) | (at_builtin; have hownL := hown8.alloc (.cells #[.int .u8 0] 5); have hlit : Rd (w8.alloc (.cells #[.int .u8 0] 5)) (w8.heap.size + 1) 1 (some ⟨w8.heap.size, 0, none⟩) 1 1 (bytesV [if false then 1 else 0]) := Rd.lit w8 5 #[.int .u8 0] (n := 1) (sz := 1) rfl (by decide); refine wpList_app _ tyBytes rfl (.tmp 57) (.tmp 58) rfl wx.heap.size _ _ _ rfl hownL (w8.heap.size + 1) _ 1 1 _ rfl hlit (bytesV_one _) (by have := HQ.out; have := HN.out; have := HLc1.out; have := HLc2.out; have := HLc3.out; have := HLc4.out; omega) (by simp; have := hb8.size; omega) ?_; intro v9 w9 ho hg _; have hbL := hb8.alloc hb8.size (.cells #[.int .u8 0] 5); have hb9 := below_app hbL (Nat.le_refl _) hownL hg (by simp; have := hb8.size; omega); obtain ⟨c5, hc5⟩ : ∃ c, c = c4 ++ [if false then 1 else 0] := ⟨_, rfl⟩; have hown9 : w9.ownsRow wx.heap.size 5 1 v9 c5.length (bytesV c5) := (by rw [hc5, List.length_append, bytesV_append]; exact ho); have Hc5 := hide hc5; clear ho hg hc5 hlit hownL hbL))
        go_roundw
        case rel =>
          refine ⟨k + 1, c5, v9, rfl, by go_num, by omega, hown9, hide (cur_next hlt hcur.out HF.out Hc1.out Hc2.out Hc3.out Hc4.out (by rw [← HND.out]; exact Hc5.out)), ?_, hb9⟩
          have := HLc1.out
          have := HLc2.out
          have := HLc3.out
          have := HLc4.out
          have := HQ.out
          have := HN.out
          rw [Hc5.out, List.length_append]
          simp only [List.length_cons, List.length_nil]
          omega
        case measure => exact meas_sub k _ hlt
    · have hlt2 : ¬ k < l.length := hlt
      go_wp2_with fail
      go_ret
      refine ⟨_, rfl, ?_, hBx.trans (hbr.mono (Nat.le_of_lt (by have := zx; rw [HBX.out] at this; exact this)))⟩
      have hc := hcur.out
      rw [show k = l.length by omega, List.take_length] at hc
      have e1 : pack id l = cur := by rw [hc]; rfl
      rw [e1]
      exact own_base hown (Nat.le_of_lt (by have := zx; rw [HBX.out] at this; exact this))
end Go.Proofs.Ytlccpchlclpnaaa
