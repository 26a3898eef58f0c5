/- THE WALK of the examples of layer 7. -/
import Derived.Test.YtjjileokdikcmaaDoorCrcL
import Derived.Lib.SlBytesConst
namespace Go.Proofs.YtjjileokdikcmaaDoor
open Go.RowKit

/-- a literal's block that bears a mark -/
theorem Rd.litm (w : World) {sz n : Nat} (e : TypeId) (cs : Array Value) (mk : Nat × Nat) (hl : cs.size = n * sz) (hm : n ≤ maxLen) :
    Rd (w.alloc (.cells cs e mk)) (w.heap.size + 1) sz (some ⟨w.heap.size, 0, none⟩) n n cs.toList :=
  ⟨by simpa using hl, Nat.le_refl _, hm, fun _ => ⟨w.heap.size, 0, rfl, by omega, fun j u hu => by
    rw [cell_of_row _ _ _ cs e mk (heap_alloc_new w _)]
    simpa using hu⟩⟩

/-- append onto an own row, an operation that stands behind a guard -/
theorem wpList_app_if {P : Program} (w : World) {t e : TypeId} {sz by_ : Nat} {z : Value} {ops : Array Oper} {rest : List Oper} {o : Oper} {a : Act} {Q : Exit → Act → World → Prop} (T : STy P t e sz by_ z) (hgd : Region.wanted o (yielded ops a.tmps) = true) (s x : Operand)
    (ho : o.op = .call { callee := .builtin .append, args := #[s, x], argTypes := #[t, t] }) (base : Nat)
    (v : Value) (n : Nat) (xs : List Value) (hs : a.eval s = v) (hown : w.ownsRow base e sz v n xs)
    (B : Nat) (A : Option Addr) (m c : Nat) (news : List Value) (hx : a.eval x = .slice A m c) (hr : Rd w B sz A m c news) (h1 : ∀ u ∈ news, u.oneCell' = true)
    (hbytes : (n + m) * by_ ≤ 140737488355328) (hbase : base ≤ w.heap.size)
    (h : ∀ v' w', w'.ownsRow base e sz v' (n + m) (xs ++ news) → w.grownBy w' v.ownBlock → (v'.ownBlock = v.ownBlock ∨ v'.ownBlock = some w.heap.size) → wpList P ops Q rest (a.put o.dst v') w') :
    wpList P ops Q (o :: rest) a w := by
  unfold wpList
  rw [if_pos hgd]
  exact .inl (wp_app w T s x ho base v n xs hs hown B A m c news hx hr h1 hbytes hbase fun v' w' h2 h3 h4 => h v' w' h2 h3 h4)
theorem seal_a : seal_ [97] = [97, 67, 190, 183, 232] := by decide +kernel
theorem crc_digits : (Crc.crc [49, 50, 51, 52, 53, 54, 55, 56, 57]).toNat = 3421780262 := by decide +kernel

set_option maxRecDepth 100000 in
theorem aliveCrc (w : World) (ht : Table w) : Calls Tryd.prog 8 #[] w (RetVal w (.bool true)) := by
  have HT := hide ht
  have hpos := ht.pos
  clear ht
  have kc := fun (w : World) (C : Array Value) (n c : Nat) => Lib.run_convert_bytes_const (P := Tryd.prog) w 23 5 C n c Tryd.underlying23 Tryd.underlying5
  go_enter Tryd.func8, Tryd.ntmps8
  go_wp2_with fail
  have hb0 : Below w.heap.size w (w.alloc (.cells #[.int .u8 97] 5 (1, 2))) := (Below.refl _ _).alloc (Nat.le_refl _) _
  have hr0 := Rd.litm w 5 (sz := 1) (n := 1) #[.int .u8 97] (1, 2) rfl (by decide)
  generalize hw0 : w.alloc (.cells #[.int .u8 97] 5 (1, 2)) = w0 at *
  have hz0 : w0.heap.size = w.heap.size + 1 := by rw [← hw0]; simp
  rw [← hz0] at hr0
  refine (crcSeal w0 1 1 _ [97] hr0 (HT.out.below hb0 hpos) (by decide)).mono ?_
  rintro e w1 ⟨v1, rfl, hown1, hb1⟩
  have hb1' := below_call hb0 hb0.size hb1
  rw [seal_a] at hown1
  obtain ⟨A1, c1, rfl, hr1⟩ := Rd.of_own hown1
  clear hown1 hr0 hb1
  go_wp2_with fail
  refine (crcOpen w1 _ c1 A1 _ hr1 (HT.out.below hb1' hpos) (by decide)).mono ?_
  rw [← seal_a]
  rintro e w2 h
  unfold RetOpen at h
  rw [open_seal] at h
  rcases h with ⟨t, v2, h1, rfl, hown2, hb2⟩ | ⟨h1, _⟩
  rotate_left 1
  · cases h1
  cases h1
  have hb2' := below_call hb1' hb1'.size hb2
  obtain ⟨A2, c2, rfl, hr2⟩ := Rd.of_own hown2
  have hcv2 : (convert 23 9 (.slice A2 1 c2)).run Tryd.prog w2 = .ok (.string ⟨#[97]⟩) w2 := run_str (P := Tryd.prog) w2 Tryd.underlying23 Tryd.underlying5 Tryd.underlying9 hr2
  clear hown2 hb2 hr1 hcv2
  have hd0 : Below w2.heap.size w2 (w2.alloc (.cells #[.int .u8 49, .int .u8 50, .int .u8 51, .int .u8 52, .int .u8 53, .int .u8 54, .int .u8 55, .int .u8 56, .int .u8 57] 5 (9, 10))) := (Below.refl _ _).alloc (Nat.le_refl _) _
  have hs0 := Rd.litm w2 5 (sz := 1) (n := 9) #[.int .u8 49, .int .u8 50, .int .u8 51, .int .u8 52, .int .u8 53, .int .u8 54, .int .u8 55, .int .u8 56, .int .u8 57] (9, 10) rfl (by decide)
  go_wp2_with fail
  generalize w2.alloc (.cells #[.int .u8 49, .int .u8 50, .int .u8 51, .int .u8 52, .int .u8 53, .int .u8 54, .int .u8 55, .int .u8 56, .int .u8 57] 5 (9, 10)) = w3 at *
  have hb3' := below_call hb2' hb2'.size hd0
  refine (crcOf w3 _ 9 9 _ [49, 50, 51, 52, 53, 54, 55, 56, 57] hs0 (HT.out.below hb3' hpos)).mono ?_
  rintro e w4 ⟨rfl, rfl⟩
  rw [crc_digits]
  have hr3 := (hr2.below hd0).more hd0.size
  clear hs0
  go_wp2_with fail
  have hf0 : Below w3.heap.size w3 (w3.alloc (.cells #[.int .u8 97] 5 (1, 2))) := (Below.refl _ _).alloc (Nat.le_refl _) _
  have hu0 := Rd.litm w3 5 (sz := 1) (n := 1) #[.int .u8 97] (1, 2) rfl (by decide)
  generalize hw5 : w3.alloc (.cells #[.int .u8 97] 5 (1, 2)) = w5 at *
  have hz5 : w5.heap.size = w3.heap.size + 1 := by rw [← hw5]; simp
  rw [← hz5] at hu0
  have hb5' := below_call hb3' hb3'.size hf0
  refine (crcSeal w5 1 1 _ [97] hu0 (HT.out.below hb5' hpos) (by decide)).mono ?_
  rintro e w6 ⟨v6, rfl, hown6, hb6⟩
  have hb6' := below_call hb5' hb5'.size hb6
  rw [seal_a] at hown6
  obtain ⟨A6, c6, rfl, hr6⟩ := Rd.of_own hown6
  have hr7 := ((hr3.below hf0).more hf0.size).below hb6
  have hcv6 : (convert 23 9 (.slice A6 5 c6)).run Tryd.prog w6 = .ok (.string ⟨#[97, 67, 190, 183, 232]⟩) w6 := run_str (P := Tryd.prog) w6 Tryd.underlying23 Tryd.underlying5 Tryd.underlying9 hr6
  have hcv7 : (convert 23 9 (.slice A2 1 c2)).run Tryd.prog w6 = .ok (.string ⟨#[97]⟩) w6 := run_str (P := Tryd.prog) w6 Tryd.underlying23 Tryd.underlying5 Tryd.underlying9 hr7
  clear hown6 hb6 hr6 hu0 hr3 hr2
  go_wp2_with fail
  go_ret
  exact ⟨rfl, hb6'⟩
end Go.Proofs.YtjjileokdikcmaaDoor
