/- THE WALK of the law's Do, on the store and on the reference's: for safety alone. No statement of the seat is proved here; no condition but sizes. -/
import Derived.Test.YtbgfmcmaklobaaaObV
import Derived.Test.YtbgfmcmaklobaaaObG
namespace Go.Proofs.Ytbgfmcmaklobaaa
open Go.RowKit

/-- both stores in memory -/
structure Du (w : World) (sb mb rb lb N : Nat) (s : So) (r : Rf) : Prop where
  st : ∃ P, StR P w sb mb N s ∧ ¬ P rb ∧ ¬ P lb
  rf : RfR w sb mb rb lb r
section
variable {w w' : World} {sb mb rb lb lb2 N N2 : Nat} {s s2 : So} {r r2 : Rf} {Q : Nat → Prop}
theorem Du.prep (h : Du w sb mb rb lb N s r) : ∃ Q, StR Q w sb mb N s ∧ (∀ k, w.heap.size ≤ k → Q k) ∧ ¬ Q rb ∧ ¬ Q lb := by
  obtain ⟨P, hS, n1, n2⟩ := h.st
  have z1 := hS.bx.z
  have z2 := hS.mlt
  have z3 := h.rf.bx.z
  have z4 := h.rf.lt
  refine ⟨fun k => P k ∨ w.heap.size ≤ k, hS.imp (fun k hk _ => .inl hk) ?_ ?_, fun k hk => .inr hk, ?_, ?_⟩
  · rintro (q | q)
    · exact hS.nP q
    · omega
  · rintro (q | q)
    · exact hS.nM q
    · omega
  · rintro (q | q)
    · exact n1 q
    · omega
  · rintro (q | q)
    · exact n2 q
    · omega
theorem Du.obj (h : RfR w sb mb rb lb r) (hS : StR Q w' sb mb N s) (n1 : ¬ Q rb) (n2 : ¬ Q lb) (O : Ost sb mb w w') : Du w' sb mb rb lb N s r := ⟨⟨Q, hS, n1, n2⟩, h.ost O⟩
theorem BoxN.ost {b x y : Nat} {cs : List Value} (h : BoxN w b cs) (O : Ost x y w w') (h1 : b ≠ x) (h2 : b ≠ y) : BoxN w' b cs :=
  ⟨fun j v hj => (World.cell?_of_block (w := w) (a := ⟨b, j, none⟩) (O.block b h.z h1 h2)).trans (h.cell j v hj), fun j hj => (World.frozen?_of_block (w := w) (a := ⟨b, j, none⟩) (O.block b h.z h1 h2)).trans (h.free j hj), Nat.lt_of_lt_of_le h.z O.size⟩
theorem StR.oth2 (h : StR Q w sb mb N s) (O : Ost rb lb w w') (n1 : ¬ Q rb) (n2 : ¬ Q lb) (ne : rb ≠ sb ∧ rb ≠ mb ∧ lb ≠ sb ∧ lb ≠ mb) : StR Q w' sb mb N s :=
  ⟨h.bx.ost O (fun q => ne.1 q.symm) (fun q => ne.2.2.1 q.symm), by
    obtain ⟨D, hD⟩ := h.mp
    exact ⟨D, hD.move O.size (O.block mb hD.lt (fun q => ne.2.1 q.symm) (fun q => ne.2.2.2 q.symm)) (fun p hp hl => O.cell hl (fun q => n1 (by rw [← q]; exact hp)) (fun q => n2 (by rw [← q]; exact hp)))⟩, h.nP, h.ne, h.ok⟩
theorem Du.ref (h : Du w sb mb rb lb N s r) (hr : RfR w' sb mb rb lb2 r2) (O : Ost rb lb w w') (hl : lb2 = lb ∨ w.heap.size ≤ lb2) : Du w' sb mb rb lb2 N s r2 := by
  obtain ⟨P, hS, n1, n2⟩ := h.st
  refine ⟨⟨fun k => P k ∧ k < w.heap.size, (hS.imp (Q := fun k => P k ∧ k < w.heap.size) (fun k hp hl => ⟨hp, hl⟩) (fun q => hS.nP q.1) (fun q => hS.nM q.1)).oth2 O (fun q => n1 q.1) (fun q => n2 q.1) h.rf.ne, fun q => n1 q.1, fun q => ?_⟩, hr⟩
  rcases hl with e | e
  · exact n2 (by rw [← e]; exact q.1)
  · have := q.2; omega
theorem Du.keep (h : Du w sb mb rb lb N s r) (hb : Below w.heap.size w w') : Du w' sb mb rb lb N s r := by
  obtain ⟨P, hS, n1, n2⟩ := h.st
  exact ⟨⟨P, hS.keep hb, n1, n2⟩, h.rf.keep hb⟩
theorem RdP.ofRd {P : Nat → Prop} {B c : Nat} {A : Option Addr} {l : List UInt8} (h : Rd w B 1 A l.length c (bytesV l)) (hB : B ≤ w.heap.size) (hP : ∀ k, k < B → P k) : RdP w P A l.length c l :=
  ⟨h.more hB, fun hn => by obtain ⟨b, off, e, hb, _⟩ := h.at_ hn; exact ⟨b, off, e, hP b hb⟩⟩
/-- what may have turned: the two stores' blocks -/
structure Qst (sb mb rb lb : Nat) (w w' : World) : Prop where
  os : w'.os = w.os
  tape : w'.tape = w.tape
  output : w'.output = w.output
  size : w.heap.size ≤ w'.heap.size
  block : ∀ k, k < w.heap.size → k ≠ sb → k ≠ mb → k ≠ rb → k ≠ lb → w'.heap[k]? = w.heap[k]?
theorem Qst.refl : Qst sb mb rb lb w w := ⟨rfl, rfl, rfl, Nat.le_refl _, fun _ _ _ _ _ _ => rfl⟩
theorem Qst.trans {u : World} (h : Qst sb mb rb lb u w) (o : Qst sb mb rb lb w w') : Qst sb mb rb lb u w' := ⟨o.os.trans h.os, o.tape.trans h.tape, o.output.trans h.output, Nat.le_trans h.size o.size, fun k hk h1 h2 h3 h4 => (o.block k (Nat.lt_of_lt_of_le hk h.size) h1 h2 h3 h4).trans (h.block k hk h1 h2 h3 h4)⟩
theorem Qst.below (h : Qst sb mb rb lb w w') {B : Nat} (h1 : B ≤ sb) (h2 : B ≤ mb) (h3 : B ≤ rb) (h4 : B ≤ lb) (h5 : B ≤ w.heap.size) : Below B w w' := ⟨h.os, h.tape, h.output, h.size, fun k hk => h.block k (by omega) (by omega) (by omega) (by omega) (by omega)⟩
theorem Qst.o1 {u : World} (h : Qst sb mb rb lb u w) (o : Ost sb mb w w') : Qst sb mb rb lb u w' := ⟨o.os.trans h.os, o.tape.trans h.tape, o.output.trans h.output, Nat.le_trans h.size o.size, fun k hk h1 h2 h3 h4 => (o.block k (Nat.lt_of_lt_of_le hk h.size) h1 h2).trans (h.block k hk h1 h2 h3 h4)⟩
theorem Qst.o2 {u : World} (h : Qst sb mb rb lb u w) (o : Ost rb lb w w') : Qst sb mb rb lb u w' := ⟨o.os.trans h.os, o.tape.trans h.tape, o.output.trans h.output, Nat.le_trans h.size o.size, fun k hk h1 h2 h3 h4 => (o.block k (Nat.lt_of_lt_of_le hk h.size) h3 h4).trans (h.block k hk h1 h2 h3 h4)⟩
end
/-- what an op of the law's leaves -/
def DoEnd (w : World) (sb mb rb lb N K : Nat) (s : So) (e : Ending) (w' : World) : Prop :=
  ∃ (b : Bool) (s' : So) (r' : Rf) (lb' N' : Nat), e = .returned (.bool b) ∧ Du w' sb mb rb lb' N' s' r' ∧ r'.L.length ≤ K + 1 ∧ SoLe 1 s s' ∧ N' ≤ N + 1 + s.m.length ∧ Qst sb mb rb lb w w' ∧ (lb' = lb ∨ w.heap.size ≤ lb')
set_option maxRecDepth 100000 in
set_option maxHeartbeats 8000000 in
theorem lawDo12 (w : World) (base sb mb rb lb N : Nat) (s : So) (r : Rf) (h : Du w sb mb rb lb N s r) (hN : N ≤ 10000) (hM : s.m.length ≤ 100) (hsm : s.small) (hK : r.L.length ≤ 100) (hbz : base ≤ w.heap.size) (hbase : base ≤ sb ∧ base ≤ mb ∧ base ≤ rb ∧ base ≤ lb)
    (o : Opn) (ho1 : o.bs.length ≤ 70000) (ho2 : o.nm.size ≤ 1000) (ho3 : o.old.size ≤ 1000) (ho4 : I64 o.n) (hb : Rd w base 1 o.bA o.bs.length o.bc (bytesV o.bs)) (hk : Rd w base 1 o.kA o.keep.length o.kc (o.keep.map (.int .i64))) :
    Calls Try.prog 17 #[.pointer (some ⟨sb, 0, none⟩), .pointer (some ⟨rb, 0, none⟩), .agg (opV o).toArray] w (DoEnd w sb mb rb lb N r.L.length s) := by
  obtain ⟨kind, nm, old, bs, bA, bc, n, keep, kA, kc⟩ := o
  dsimp only at ho1 ho2 ho3 ho4 hb hk
  unfold opV
  dsimp only
  have hbB := (Below.refl w.heap.size w).alloc (Nat.le_refl _) (.cells #[.int .u8 (kind.toNat : Int), .string nm, .string old, .slice bA bs.length bc, .int .i64 n, .slice kA keep.length kc] 41)
  have hD := h.keep hbB
  have y := boxN_new w #[.int .u8 (kind.toNat : Int), .string nm, .string old, .slice bA bs.length bc, .int .i64 n, .slice kA keep.length kc] 41
  have HB1 := hide (And.intro hb (And.intro hk hbB))
  have HD1 := hide hD
  have y0 := y.cell 0 _ rfl
  have hzs : sb ≠ w.heap.size ∧ mb ≠ w.heap.size ∧ rb ≠ w.heap.size ∧ lb ≠ w.heap.size := by obtain ⟨P, hS, _⟩ := h.st; exact ⟨by have := hS.bx.z; omega, by have := hS.mlt; omega, by have := h.rf.bx.z; omega, by have := h.rf.lt; omega⟩
  clear hD hbB hb hk h
  go_enter Try.func17, Try.ntmps17
  go_upto_region 4 with fail
  have hsz1 : w.heap.size < (w.alloc (.cells #[.int .u8 (kind.toNat : Int), .string nm, .string old, .slice bA bs.length bc, .int .i64 n, .slice kA keep.length kc] 41)).heap.size := by simp
  have hpz : ∀ k, k < w.heap.size → k ≠ w.heap.size := fun k hk => by omega
  have hDz := HD1.out
  obtain ⟨zz1, zz2, zz3, zz4⟩ : sb ≠ w.heap.size ∧ mb ≠ w.heap.size ∧ rb ≠ w.heap.size ∧ lb ≠ w.heap.size := ⟨hzs.1, hzs.2.1, hzs.2.2.1, hzs.2.2.2⟩
  have HE0 : Hid (Qst sb mb rb lb w (w.alloc (.cells #[.int .u8 (kind.toNat : Int), .string nm, .string old, .slice bA bs.length bc, .int .i64 n, .slice kA keep.length kc] 41)) ∧ w.heap.size ≤ (w.alloc (.cells #[.int .u8 (kind.toNat : Int), .string nm, .string old, .slice bA bs.length bc, .int .i64 n, .slice kA keep.length kc] 41)).heap.size) := hide ⟨Qst.refl.o1 (Ost.of HB1.out.2.2), by simp⟩
  have HZB : Hid (∀ X : Nat, X < w.heap.size → X < (w.alloc (.cells #[.int .u8 (kind.toNat : Int), .string nm, .string old, .slice bA bs.length bc, .int .i64 n, .slice kA keep.length kc] 41)).heap.size) := hide fun X hX => Nat.lt_trans hX hsz1
  have hbR : Rd (w.alloc (.cells #[.int .u8 (kind.toNat : Int), .string nm, .string old, .slice bA bs.length bc, .int .i64 n, .slice kA keep.length kc] 41)) base 1 bA bs.length bc (bytesV bs) := HB1.out.1.below' HB1.out.2.2 hbz
  have hkR : Rd (w.alloc (.cells #[.int .u8 (kind.toNat : Int), .string nm, .string old, .slice bA bs.length bc, .int .i64 n, .slice kA keep.length kc] 41)) base 1 kA keep.length kc (keep.map (.int .i64)) := HB1.out.2.1.below' HB1.out.2.2 hbz
  have hbw1 : base ≤ (w.alloc (.cells #[.int .u8 (kind.toNat : Int), .string nm, .string old, .slice bA bs.length bc, .int .i64 n, .slice kA keep.length kc] 41)).heap.size := Nat.le_trans hbz (Nat.le_of_lt hsz1)
  clear hpz hDz hsz1 hzs HZB
  clear HB1
  generalize w.alloc (.cells #[.int .u8 (kind.toNat : Int), .string nm, .string old, .slice bA bs.length bc, .int .i64 n, .slice kA keep.length kc] 41) = w1 at *
  have HW : Hid (∀ w2, Qst sb mb rb lb w1 w2 → Qst sb mb rb lb w w2) := hide fun w2 q => HE0.out.1.trans q
  have HS1 : Hid (w.heap.size ≤ w1.heap.size) := hide HE0.out.2
  obtain ⟨wz, hwz⟩ : ∃ z, w.heap.size = z := ⟨_, rfl⟩
  have HDE : Hid (∀ (b : Bool) (s' : So) (r' : Rf) (lb' N' : Nat) (w2 : World), Du w2 sb mb rb lb' N' s' r' → r'.L.length ≤ r.L.length + 1 → SoLe 1 s s' → N' ≤ N + 1 + s.m.length → Qst sb mb rb lb w1 w2 → (lb' = lb ∨ w1.heap.size ≤ lb') → DoEnd w sb mb rb lb N r.L.length s (.returned (.bool b)) w2) := hide fun b s' r' lb' N' w2 h1 h2 h3 h4 h5 h6 => ⟨b, s', r', lb', N', rfl, h1, h2, h3, h4, HW.out w2 h5, h6.imp id (fun q => Nat.le_trans HS1.out q)⟩
  rw [hwz] at y zz1 zz2 zz3 zz4 y0 ⊢
  clear hwz HW HS1 HE0
  obtain ⟨m, hm⟩ : ∃ m : Nat, (kind.toNat : Int) % 9 = (m : Int) := ⟨kind.toNat % 9, by omega⟩
  have hm9 : m < 9 := by omega
  rw [hm]
  clear hm y0
  have hcs : (m = 0 ∨ m = 1) ∨ m = 2 ∨ m = 3 ∨ m = 4 ∨ m = 5 ∨ m = 6 ∨ m = 7 ∨ m = 8 := by omega
  clear hm9
  rcases hcs with (h0 | h0) | h0 | h0 | h0 | h0 | h0 | h0 | h0
  · subst h0
    go_upto_region 6 with fail
    have hbd := (Below.refl w1.heap.size w1).drew
    have hDd := HD1.out.keep hbd
    have yd := y.keep hbd y.z
    obtain ⟨Q, hS, hQ, q1, q2⟩ := hDd.prep
    have hR := hDd.rf
    have zs : sb < w1.drew.heap.size ∧ mb < w1.drew.heap.size := ⟨hS.bx.z, hS.mlt⟩
    have hrp : RdP w1.drew (fun k => k ≠ sb ∧ k ≠ mb) bA bs.length bc bs := .ofRd (hbR.below' hbd hbw1) hbw1 (fun k hk => ⟨by omega, by omega⟩)
    have hrq : RdP w1.drew (Ofl sb mb rb lb) bA bs.length bc bs := .ofRd (hbR.below' hbd hbw1) hbw1 (fun k hk => ⟨by omega, by omega, by omega, by omega⟩)
    have QD : Qst sb mb rb lb w1 w1.drew := Qst.refl.o1 (Ost.of hbd)
    have hz : w1.heap.size = w1.drew.heap.size := rfl
    clear hbR hkR hbd
    refine wp_region_held_drew (S := fun w' => w'.cell? ⟨wz, 1, none⟩ = some (.string nm) ∧ w'.cell? ⟨wz, 2, none⟩ = some (.string old) ∧ w'.cell? ⟨wz, 3, none⟩ = some (.slice bA bs.length bc)) (by kernel_rfl) ?_ (fun hHeld => ?_)
    · exact ⟨yd.cell 1 _ rfl, yd.cell 2 _ rfl, yd.cell 3 _ rfl⟩
    refine wpAnyH_take (i := 0) (v := ?_) rfl (by kernel_rfl) (by kernel_rfl) (by kernel_rfl) (fun _ _ _ h => h) (Or.inl ⟨by rfl, ?_⟩) hHeld ?_
    rotate_left 1
    · (intro w' hSw; obtain ⟨q1, q2, q3⟩ := hSw; go_simp; first | done | with_reducible rfl)
    (try simp only [Act.put, List.setIfInBounds_toArray])
    refine wpAnyH_take (i := 1) (v := ?_) rfl (by kernel_rfl) (by kernel_rfl) (by kernel_rfl) (fun _ _ _ h => h) (Or.inl ⟨by rfl, ?_⟩) hHeld ?_
    rotate_left 1
    · (intro w' hSw; obtain ⟨q1, q2, q3⟩ := hSw; go_simp; first | done | with_reducible rfl)
    (try simp only [Act.put])
    refine wpAnyH_take (i := 2) (v := ?_) rfl (by kernel_rfl) (by kernel_rfl) (by kernel_rfl) (fun _ _ _ h => h) (Or.inl ⟨by rfl, ?_⟩) hHeld ?_
    rotate_left 1
    · (intro w' hSw; obtain ⟨q1, q2, q3⟩ := hSw; go_simp; first | done | with_reducible rfl)
    (try simp only [Act.put])
    refine wpAnyH_take (i := 3) (v := ?_) rfl (by kernel_rfl) (by kernel_rfl) (by kernel_rfl) (fun _ _ _ h => h) (Or.inl ⟨by rfl, ?_⟩) hHeld ?_
    rotate_left 1
    · (intro w' hSw; obtain ⟨q1, q2, q3⟩ := hSw; go_simp; first | done | with_reducible rfl)
    (try simp only [Act.put])
    refine wpAnyH_take (i := 4) (v := ?_) rfl (by kernel_rfl) (by kernel_rfl) (by kernel_rfl) (fun _ _ _ h => h) (Or.inl ⟨by rfl, ?_⟩) hHeld ?_
    rotate_left 1
    · (intro w' hSw; obtain ⟨q1, q2, q3⟩ := hSw; go_simp; first | done | with_reducible rfl)
    (try simp only [Act.put])
    refine wpAnyH_take (i := 6) (v := ?_) rfl (by kernel_rfl) (by kernel_rfl) (by kernel_rfl) (fun _ _ _ h => h) (Or.inl ⟨by rfl, ?_⟩) hHeld ?_
    rotate_left 1
    · (intro w' hSw; obtain ⟨q1, q2, q3⟩ := hSw; go_simp; first | done | with_reducible rfl)
    (try simp only [Act.put])
    refine wpAnyH_take (i := 7) (v := ?_) rfl (by kernel_rfl) (by kernel_rfl) (by kernel_rfl) (fun _ _ _ h => h) (Or.inl ⟨by rfl, ?_⟩) hHeld ?_
    rotate_left 1
    · (intro w' hSw; obtain ⟨q1, q2, q3⟩ := hSw; go_simp; first | done | with_reducible rfl)
    (try simp only [Act.put])
    refine wpAnyH_take (i := 8) (v := ?_) rfl (by kernel_rfl) (by kernel_rfl) (by kernel_rfl) (fun _ _ _ h => h) (Or.inl ⟨by rfl, ?_⟩) hHeld ?_
    rotate_left 1
    · (intro w' hSw; obtain ⟨q1, q2, q3⟩ := hSw; go_simp; first | done | with_reducible rfl)
    (try simp only [Act.put])
    refine wpAnyH_take (i := 9) (v := ?_) rfl (by kernel_rfl) (by kernel_rfl) (by kernel_rfl) (fun _ _ _ h => h) (Or.inl ⟨by rfl, ?_⟩) hHeld ?_
    rotate_left 1
    · (intro w' hSw; obtain ⟨q1, q2, q3⟩ := hSw; go_simp; first | done | with_reducible rfl)
    (try simp only [Act.put])
    refine wpAnyH_take (i := 10) (v := ?_) rfl (by kernel_rfl) (by kernel_rfl) (by kernel_rfl) (fun _ _ _ h => h) (Or.inl ⟨by rfl, ?_⟩) hHeld ?_
    rotate_left 1
    · (intro w' hSw; obtain ⟨q1, q2, q3⟩ := hSw; go_simp; first | done | with_reducible rfl)
    (try simp only [Act.put])
    refine wpAnyH_ready (rs := [5]) (by kernel_rfl) (by simp) ?_
    refine AllReadyH.cons rfl (fun K hK => ?_) AllReadyH.nil
    go_simp
    go_at_call 8
    refine (objPut Q w1.drew sb mb N s hS hQ (by omega) nm (by unfold maxLen; omega) bA bc bs hrp).mono ?_
    rintro e w2 ⟨rfl, hS2, O2⟩
    have y2 := yd.ost O2 (fun q => zz1 q.symm) (fun q => zz2 q.symm)
    refine hK.out _ _ ⟨y2.cell 1 _ rfl, y2.cell 2 _ rfl, y2.cell 3 _ rfl⟩ (fun hHeld => ?_)
    clear hK K
    (try simp only [Act.put, List.setIfInBounds_toArray, List.set_cons_zero, List.set_cons_succ])
    have hD2 := Du.obj hR hS2 q1 q2 O2
    have hR2 := hD2.rf
    have zs2 : sb < w2.heap.size ∧ mb < w2.heap.size := ⟨hS2.bx.z, hS2.mlt⟩
    have hrq2 : RdP w2 (Ofl sb mb rb lb) bA bs.length bc bs := hrq.keep O2.size (fun p hp hl => O2.cell hl hp.1 hp.2.1)
    refine wpAnyH_ready (rs := [11]) (by kernel_rfl) (by simp) ?_
    refine AllReadyH.cons rfl (fun K hK => ?_) AllReadyH.nil
    go_simp
    go_at_call 27
    refine (refPut w2 sb mb rb lb r hR2 (by omega) zs2 nm (by unfold maxLen; omega) bA bc bs hrq2).mono ?_
    rintro e w3 ⟨k, rfl, r2, lb2, hR3, hL3, O3, hl3⟩
    have y3 := y2.ost O3 (fun q => zz3 q.symm) (fun q => zz4 q.symm)
    refine hK.out _ _ ⟨y3.cell 1 _ rfl, y3.cell 2 _ rfl, y3.cell 3 _ rfl⟩ (fun hHeld => ?_)
    clear hK K
    (try simp only [Act.put, List.setIfInBounds_toArray, List.set_cons_zero, List.set_cons_succ])
    have hD3 := hD2.ref hR3 O3 hl3
    have HF := hide (And.intro hD3 (And.intro hL3 (And.intro ((QD.o1 O2).o2 O3) (And.intro hl3 (And.intro O2.size hz)))))
    clear hD3 hL3 O3 O2 hl3 hD2 hR2 hR3 hrq hrp hrq2 hS2 hS hQ q1 q2 hR hDd QD zs zs2 hz
    refine wpAnyH_take (i := 12) (v := ?_) rfl (by kernel_rfl) (by kernel_rfl) (by kernel_rfl) (fun _ _ _ h => h) (Or.inl ⟨by rfl, ?_⟩) hHeld ?_
    rotate_left 1
    · (intro w' hSw; obtain ⟨q1, q2, q3⟩ := hSw; go_simp; first | done | with_reducible rfl)
    (try simp only [Act.put, List.setIfInBounds_toArray])
    refine wpAnyH_take (i := 13) (v := ?_) rfl (by kernel_rfl) (by kernel_rfl) (by kernel_rfl) (fun _ _ _ h => h) (Or.inl ⟨by rfl, ?_⟩) hHeld ?_
    rotate_left 1
    · (intro w' hSw; obtain ⟨q1, q2, q3⟩ := hSw; go_simp; first | done | with_reducible rfl)
    (try simp only [Act.put])
    refine wpAnyH_done (by kernel_rfl) ?_ _
    go_wp2_with fail
    go_ret
    obtain ⟨a1, a2, a3, a4, a5, a6⟩ := HF.out
    exact HDE.out _ _ _ _ _ _ a1 (by omega) (le_put s nm bs) (by omega) a3 (a4.imp id (fun q => by omega))
  · subst h0
    go_upto_region 6 with fail
    have hbd := (Below.refl w1.heap.size w1).drew
    have hDd := HD1.out.keep hbd
    have yd := y.keep hbd y.z
    obtain ⟨Q, hS, hQ, q1, q2⟩ := hDd.prep
    have hR := hDd.rf
    have zs : sb < w1.drew.heap.size ∧ mb < w1.drew.heap.size := ⟨hS.bx.z, hS.mlt⟩
    have hrp : RdP w1.drew (fun k => k ≠ sb ∧ k ≠ mb) bA bs.length bc bs := .ofRd (hbR.below' hbd hbw1) hbw1 (fun k hk => ⟨by omega, by omega⟩)
    have hrq : RdP w1.drew (Ofl sb mb rb lb) bA bs.length bc bs := .ofRd (hbR.below' hbd hbw1) hbw1 (fun k hk => ⟨by omega, by omega, by omega, by omega⟩)
    have QD : Qst sb mb rb lb w1 w1.drew := Qst.refl.o1 (Ost.of hbd)
    have hz : w1.heap.size = w1.drew.heap.size := rfl
    clear hbR hkR hbd
    refine wp_region_held_drew (S := fun w' => w'.cell? ⟨wz, 1, none⟩ = some (.string nm) ∧ w'.cell? ⟨wz, 2, none⟩ = some (.string old) ∧ w'.cell? ⟨wz, 3, none⟩ = some (.slice bA bs.length bc)) (by kernel_rfl) ?_ (fun hHeld => ?_)
    · exact ⟨yd.cell 1 _ rfl, yd.cell 2 _ rfl, yd.cell 3 _ rfl⟩
    refine wpAnyH_take (i := 0) (v := ?_) rfl (by kernel_rfl) (by kernel_rfl) (by kernel_rfl) (fun _ _ _ h => h) (Or.inl ⟨by rfl, ?_⟩) hHeld ?_
    rotate_left 1
    · (intro w' hSw; obtain ⟨q1, q2, q3⟩ := hSw; go_simp; first | done | with_reducible rfl)
    (try simp only [Act.put, List.setIfInBounds_toArray])
    refine wpAnyH_take (i := 1) (v := ?_) rfl (by kernel_rfl) (by kernel_rfl) (by kernel_rfl) (fun _ _ _ h => h) (Or.inl ⟨by rfl, ?_⟩) hHeld ?_
    rotate_left 1
    · (intro w' hSw; obtain ⟨q1, q2, q3⟩ := hSw; go_simp; first | done | with_reducible rfl)
    (try simp only [Act.put])
    refine wpAnyH_take (i := 2) (v := ?_) rfl (by kernel_rfl) (by kernel_rfl) (by kernel_rfl) (fun _ _ _ h => h) (Or.inl ⟨by rfl, ?_⟩) hHeld ?_
    rotate_left 1
    · (intro w' hSw; obtain ⟨q1, q2, q3⟩ := hSw; go_simp; first | done | with_reducible rfl)
    (try simp only [Act.put])
    refine wpAnyH_take (i := 3) (v := ?_) rfl (by kernel_rfl) (by kernel_rfl) (by kernel_rfl) (fun _ _ _ h => h) (Or.inl ⟨by rfl, ?_⟩) hHeld ?_
    rotate_left 1
    · (intro w' hSw; obtain ⟨q1, q2, q3⟩ := hSw; go_simp; first | done | with_reducible rfl)
    (try simp only [Act.put])
    refine wpAnyH_take (i := 4) (v := ?_) rfl (by kernel_rfl) (by kernel_rfl) (by kernel_rfl) (fun _ _ _ h => h) (Or.inl ⟨by rfl, ?_⟩) hHeld ?_
    rotate_left 1
    · (intro w' hSw; obtain ⟨q1, q2, q3⟩ := hSw; go_simp; first | done | with_reducible rfl)
    (try simp only [Act.put])
    refine wpAnyH_take (i := 6) (v := ?_) rfl (by kernel_rfl) (by kernel_rfl) (by kernel_rfl) (fun _ _ _ h => h) (Or.inl ⟨by rfl, ?_⟩) hHeld ?_
    rotate_left 1
    · (intro w' hSw; obtain ⟨q1, q2, q3⟩ := hSw; go_simp; first | done | with_reducible rfl)
    (try simp only [Act.put])
    refine wpAnyH_take (i := 7) (v := ?_) rfl (by kernel_rfl) (by kernel_rfl) (by kernel_rfl) (fun _ _ _ h => h) (Or.inl ⟨by rfl, ?_⟩) hHeld ?_
    rotate_left 1
    · (intro w' hSw; obtain ⟨q1, q2, q3⟩ := hSw; go_simp; first | done | with_reducible rfl)
    (try simp only [Act.put])
    refine wpAnyH_take (i := 8) (v := ?_) rfl (by kernel_rfl) (by kernel_rfl) (by kernel_rfl) (fun _ _ _ h => h) (Or.inl ⟨by rfl, ?_⟩) hHeld ?_
    rotate_left 1
    · (intro w' hSw; obtain ⟨q1, q2, q3⟩ := hSw; go_simp; first | done | with_reducible rfl)
    (try simp only [Act.put])
    refine wpAnyH_take (i := 9) (v := ?_) rfl (by kernel_rfl) (by kernel_rfl) (by kernel_rfl) (fun _ _ _ h => h) (Or.inl ⟨by rfl, ?_⟩) hHeld ?_
    rotate_left 1
    · (intro w' hSw; obtain ⟨q1, q2, q3⟩ := hSw; go_simp; first | done | with_reducible rfl)
    (try simp only [Act.put])
    refine wpAnyH_take (i := 10) (v := ?_) rfl (by kernel_rfl) (by kernel_rfl) (by kernel_rfl) (fun _ _ _ h => h) (Or.inl ⟨by rfl, ?_⟩) hHeld ?_
    rotate_left 1
    · (intro w' hSw; obtain ⟨q1, q2, q3⟩ := hSw; go_simp; first | done | with_reducible rfl)
    (try simp only [Act.put])
    refine wpAnyH_ready (rs := [5]) (by kernel_rfl) (by simp) ?_
    refine AllReadyH.cons rfl (fun K hK => ?_) AllReadyH.nil
    go_simp
    go_at_call 8
    refine (objPut Q w1.drew sb mb N s hS hQ (by omega) nm (by unfold maxLen; omega) bA bc bs hrp).mono ?_
    rintro e w2 ⟨rfl, hS2, O2⟩
    have y2 := yd.ost O2 (fun q => zz1 q.symm) (fun q => zz2 q.symm)
    refine hK.out _ _ ⟨y2.cell 1 _ rfl, y2.cell 2 _ rfl, y2.cell 3 _ rfl⟩ (fun hHeld => ?_)
    clear hK K
    (try simp only [Act.put, List.setIfInBounds_toArray, List.set_cons_zero, List.set_cons_succ])
    have hD2 := Du.obj hR hS2 q1 q2 O2
    have hR2 := hD2.rf
    have zs2 : sb < w2.heap.size ∧ mb < w2.heap.size := ⟨hS2.bx.z, hS2.mlt⟩
    have hrq2 : RdP w2 (Ofl sb mb rb lb) bA bs.length bc bs := hrq.keep O2.size (fun p hp hl => O2.cell hl hp.1 hp.2.1)
    refine wpAnyH_ready (rs := [11]) (by kernel_rfl) (by simp) ?_
    refine AllReadyH.cons rfl (fun K hK => ?_) AllReadyH.nil
    go_simp
    go_at_call 27
    refine (refPut w2 sb mb rb lb r hR2 (by omega) zs2 nm (by unfold maxLen; omega) bA bc bs hrq2).mono ?_
    rintro e w3 ⟨k, rfl, r2, lb2, hR3, hL3, O3, hl3⟩
    have y3 := y2.ost O3 (fun q => zz3 q.symm) (fun q => zz4 q.symm)
    refine hK.out _ _ ⟨y3.cell 1 _ rfl, y3.cell 2 _ rfl, y3.cell 3 _ rfl⟩ (fun hHeld => ?_)
    clear hK K
    (try simp only [Act.put, List.setIfInBounds_toArray, List.set_cons_zero, List.set_cons_succ])
    have hD3 := hD2.ref hR3 O3 hl3
    have HF := hide (And.intro hD3 (And.intro hL3 (And.intro ((QD.o1 O2).o2 O3) (And.intro hl3 (And.intro O2.size hz)))))
    clear hD3 hL3 O3 O2 hl3 hD2 hR2 hR3 hrq hrp hrq2 hS2 hS hQ q1 q2 hR hDd QD zs zs2 hz
    refine wpAnyH_take (i := 12) (v := ?_) rfl (by kernel_rfl) (by kernel_rfl) (by kernel_rfl) (fun _ _ _ h => h) (Or.inl ⟨by rfl, ?_⟩) hHeld ?_
    rotate_left 1
    · (intro w' hSw; obtain ⟨q1, q2, q3⟩ := hSw; go_simp; first | done | with_reducible rfl)
    (try simp only [Act.put, List.setIfInBounds_toArray])
    refine wpAnyH_take (i := 13) (v := ?_) rfl (by kernel_rfl) (by kernel_rfl) (by kernel_rfl) (fun _ _ _ h => h) (Or.inl ⟨by rfl, ?_⟩) hHeld ?_
    rotate_left 1
    · (intro w' hSw; obtain ⟨q1, q2, q3⟩ := hSw; go_simp; first | done | with_reducible rfl)
    (try simp only [Act.put])
    refine wpAnyH_done (by kernel_rfl) ?_ _
    go_wp2_with fail
    go_ret
    obtain ⟨a1, a2, a3, a4, a5, a6⟩ := HF.out
    exact HDE.out _ _ _ _ _ _ a1 (by omega) (le_put s nm bs) (by omega) a3 (a4.imp id (fun q => by omega))
  · subst h0
    go_upto_region 8 with fail
    have hbd := (Below.refl w1.heap.size w1).drew
    have hDd := HD1.out.keep hbd
    have yd := y.keep hbd y.z
    obtain ⟨Q, hS, hQ, q1, q2⟩ := hDd.prep
    have hR := hDd.rf
    have zs : sb < w1.drew.heap.size ∧ mb < w1.drew.heap.size := ⟨hS.bx.z, hS.mlt⟩
    have hrp : RdP w1.drew (fun k => k ≠ sb ∧ k ≠ mb) bA bs.length bc bs := .ofRd (hbR.below' hbd hbw1) hbw1 (fun k hk => ⟨by omega, by omega⟩)
    have hrq : RdP w1.drew (Ofl sb mb rb lb) bA bs.length bc bs := .ofRd (hbR.below' hbd hbw1) hbw1 (fun k hk => ⟨by omega, by omega, by omega, by omega⟩)
    have QD : Qst sb mb rb lb w1 w1.drew := Qst.refl.o1 (Ost.of hbd)
    have hz : w1.heap.size = w1.drew.heap.size := rfl
    clear hbR hkR hbd
    refine wp_region_held_drew (S := fun w' => w'.cell? ⟨wz, 1, none⟩ = some (.string nm) ∧ w'.cell? ⟨wz, 2, none⟩ = some (.string old) ∧ w'.cell? ⟨wz, 3, none⟩ = some (.slice bA bs.length bc)) (by kernel_rfl) ?_ (fun hHeld => ?_)
    · exact ⟨yd.cell 1 _ rfl, yd.cell 2 _ rfl, yd.cell 3 _ rfl⟩
    refine wpAnyH_take (i := 0) (v := ?_) rfl (by kernel_rfl) (by kernel_rfl) (by kernel_rfl) (fun _ _ _ h => h) (Or.inl ⟨by rfl, ?_⟩) hHeld ?_
    rotate_left 1
    · (intro w' hSw; obtain ⟨q1, q2, q3⟩ := hSw; go_simp; first | done | with_reducible rfl)
    (try simp only [Act.put, List.setIfInBounds_toArray])
    refine wpAnyH_take (i := 1) (v := ?_) rfl (by kernel_rfl) (by kernel_rfl) (by kernel_rfl) (fun _ _ _ h => h) (Or.inl ⟨by rfl, ?_⟩) hHeld ?_
    rotate_left 1
    · (intro w' hSw; obtain ⟨q1, q2, q3⟩ := hSw; go_simp; first | done | with_reducible rfl)
    (try simp only [Act.put])
    refine wpAnyH_take (i := 2) (v := ?_) rfl (by kernel_rfl) (by kernel_rfl) (by kernel_rfl) (fun _ _ _ h => h) (Or.inl ⟨by rfl, ?_⟩) hHeld ?_
    rotate_left 1
    · (intro w' hSw; obtain ⟨q1, q2, q3⟩ := hSw; go_simp; first | done | with_reducible rfl)
    (try simp only [Act.put])
    refine wpAnyH_take (i := 4) (v := ?_) rfl (by kernel_rfl) (by kernel_rfl) (by kernel_rfl) (fun _ _ _ h => h) (Or.inl ⟨by rfl, ?_⟩) hHeld ?_
    rotate_left 1
    · (intro w' hSw; obtain ⟨q1, q2, q3⟩ := hSw; go_simp; first | done | with_reducible rfl)
    (try simp only [Act.put])
    refine wpAnyH_take (i := 5) (v := ?_) rfl (by kernel_rfl) (by kernel_rfl) (by kernel_rfl) (fun _ _ _ h => h) (Or.inl ⟨by rfl, ?_⟩) hHeld ?_
    rotate_left 1
    · (intro w' hSw; obtain ⟨q1, q2, q3⟩ := hSw; go_simp; first | done | with_reducible rfl)
    (try simp only [Act.put])
    refine wpAnyH_take (i := 6) (v := ?_) rfl (by kernel_rfl) (by kernel_rfl) (by kernel_rfl) (fun _ _ _ h => h) (Or.inl ⟨by rfl, ?_⟩) hHeld ?_
    rotate_left 1
    · (intro w' hSw; obtain ⟨q1, q2, q3⟩ := hSw; go_simp; first | done | with_reducible rfl)
    (try simp only [Act.put])
    refine wpAnyH_ready (rs := [3]) (by kernel_rfl) (by simp) ?_
    refine AllReadyH.cons rfl (fun K hK => ?_) AllReadyH.nil
    go_simp
    go_at_call 12
    refine (objSync Q w1.drew sb mb N s hS (by omega) nm (by unfold maxLen; omega)).mono ?_
    rintro e w2 ⟨rfl, hS2, O2⟩
    have y2 := yd.ost O2 (fun q => zz1 q.symm) (fun q => zz2 q.symm)
    refine hK.out _ _ ⟨y2.cell 1 _ rfl, y2.cell 2 _ rfl, y2.cell 3 _ rfl⟩ (fun hHeld => ?_)
    clear hK K
    (try simp only [Act.put, List.setIfInBounds_toArray, List.set_cons_zero, List.set_cons_succ])
    have hD2 := Du.obj hR hS2 q1 q2 O2
    have hR2 := hD2.rf
    have zs2 : sb < w2.heap.size ∧ mb < w2.heap.size := ⟨hS2.bx.z, hS2.mlt⟩
    have hrq2 : RdP w2 (Ofl sb mb rb lb) bA bs.length bc bs := hrq.keep O2.size (fun p hp hl => O2.cell hl hp.1 hp.2.1)
    refine wpAnyH_ready (rs := [7]) (by kernel_rfl) (by simp) ?_
    refine AllReadyH.cons rfl (fun K hK => ?_) AllReadyH.nil
    go_simp
    go_at_call 28
    refine (refSync w2 sb mb rb lb r hR2 nm).mono ?_
    rintro e w3 ⟨k, rfl, r2, lb2, hR3, hL3, O3, hl3⟩
    have y3 := y2.ost O3 (fun q => zz3 q.symm) (fun q => zz4 q.symm)
    refine hK.out _ _ ⟨y3.cell 1 _ rfl, y3.cell 2 _ rfl, y3.cell 3 _ rfl⟩ (fun hHeld => ?_)
    clear hK K
    (try simp only [Act.put, List.setIfInBounds_toArray, List.set_cons_zero, List.set_cons_succ])
    have hD3 := hD2.ref hR3 O3 hl3
    have HF := hide (And.intro hD3 (And.intro hL3 (And.intro ((QD.o1 O2).o2 O3) (And.intro hl3 (And.intro O2.size hz)))))
    clear hD3 hL3 O3 O2 hl3 hD2 hR2 hR3 hrq hrp hrq2 hS2 hS hQ q1 q2 hR hDd QD zs zs2 hz
    refine wpAnyH_take (i := 8) (v := ?_) rfl (by kernel_rfl) (by kernel_rfl) (by kernel_rfl) (fun _ _ _ h => h) (Or.inl ⟨by rfl, ?_⟩) hHeld ?_
    rotate_left 1
    · (intro w' hSw; obtain ⟨q1, q2, q3⟩ := hSw; go_simp; first | done | with_reducible rfl)
    (try simp only [Act.put, List.setIfInBounds_toArray])
    refine wpAnyH_take (i := 9) (v := ?_) rfl (by kernel_rfl) (by kernel_rfl) (by kernel_rfl) (fun _ _ _ h => h) (Or.inl ⟨by rfl, ?_⟩) hHeld ?_
    rotate_left 1
    · (intro w' hSw; obtain ⟨q1, q2, q3⟩ := hSw; go_simp; first | done | with_reducible rfl)
    (try simp only [Act.put])
    refine wpAnyH_done (by kernel_rfl) ?_ _
    go_wp2_with fail
    go_ret
    obtain ⟨a1, a2, a3, a4, a5, a6⟩ := HF.out
    exact HDE.out _ _ _ _ _ _ a1 (by omega) (le_sync s nm) (by omega) a3 (a4.imp id (fun q => by omega))
  · subst h0
    go_upto_region 10 with fail
    have hbd := (Below.refl w1.heap.size w1).drew
    have hDd := HD1.out.keep hbd
    have yd := y.keep hbd y.z
    obtain ⟨Q, hS, hQ, q1, q2⟩ := hDd.prep
    have hR := hDd.rf
    have zs : sb < w1.drew.heap.size ∧ mb < w1.drew.heap.size := ⟨hS.bx.z, hS.mlt⟩
    have hrp : RdP w1.drew (fun k => k ≠ sb ∧ k ≠ mb) bA bs.length bc bs := .ofRd (hbR.below' hbd hbw1) hbw1 (fun k hk => ⟨by omega, by omega⟩)
    have hrq : RdP w1.drew (Ofl sb mb rb lb) bA bs.length bc bs := .ofRd (hbR.below' hbd hbw1) hbw1 (fun k hk => ⟨by omega, by omega, by omega, by omega⟩)
    have QD : Qst sb mb rb lb w1 w1.drew := Qst.refl.o1 (Ost.of hbd)
    have hz : w1.heap.size = w1.drew.heap.size := rfl
    clear hbR hkR hbd
    refine wp_region_held_drew (S := fun w' => w'.cell? ⟨wz, 1, none⟩ = some (.string nm) ∧ w'.cell? ⟨wz, 2, none⟩ = some (.string old) ∧ w'.cell? ⟨wz, 3, none⟩ = some (.slice bA bs.length bc)) (by kernel_rfl) ?_ (fun hHeld => ?_)
    · exact ⟨yd.cell 1 _ rfl, yd.cell 2 _ rfl, yd.cell 3 _ rfl⟩
    refine wpAnyH_take (i := 0) (v := ?_) rfl (by kernel_rfl) (by kernel_rfl) (by kernel_rfl) (fun _ _ _ h => h) (Or.inl ⟨by rfl, ?_⟩) hHeld ?_
    rotate_left 1
    · (intro w' hSw; obtain ⟨q1, q2, q3⟩ := hSw; go_simp; first | done | with_reducible rfl)
    (try simp only [Act.put, List.setIfInBounds_toArray])
    refine wpAnyH_take (i := 1) (v := ?_) rfl (by kernel_rfl) (by kernel_rfl) (by kernel_rfl) (fun _ _ _ h => h) (Or.inl ⟨by rfl, ?_⟩) hHeld ?_
    rotate_left 1
    · (intro w' hSw; obtain ⟨q1, q2, q3⟩ := hSw; go_simp; first | done | with_reducible rfl)
    (try simp only [Act.put])
    refine wpAnyH_take (i := 2) (v := ?_) rfl (by kernel_rfl) (by kernel_rfl) (by kernel_rfl) (fun _ _ _ h => h) (Or.inl ⟨by rfl, ?_⟩) hHeld ?_
    rotate_left 1
    · (intro w' hSw; obtain ⟨q1, q2, q3⟩ := hSw; go_simp; first | done | with_reducible rfl)
    (try simp only [Act.put])
    refine wpAnyH_take (i := 4) (v := ?_) rfl (by kernel_rfl) (by kernel_rfl) (by kernel_rfl) (fun _ _ _ h => h) (Or.inl ⟨by rfl, ?_⟩) hHeld ?_
    rotate_left 1
    · (intro w' hSw; obtain ⟨q1, q2, q3⟩ := hSw; go_simp; first | done | with_reducible rfl)
    (try simp only [Act.put])
    refine wpAnyH_take (i := 5) (v := ?_) rfl (by kernel_rfl) (by kernel_rfl) (by kernel_rfl) (fun _ _ _ h => h) (Or.inl ⟨by rfl, ?_⟩) hHeld ?_
    rotate_left 1
    · (intro w' hSw; obtain ⟨q1, q2, q3⟩ := hSw; go_simp; first | done | with_reducible rfl)
    (try simp only [Act.put])
    refine wpAnyH_take (i := 6) (v := ?_) rfl (by kernel_rfl) (by kernel_rfl) (by kernel_rfl) (fun _ _ _ h => h) (Or.inl ⟨by rfl, ?_⟩) hHeld ?_
    rotate_left 1
    · (intro w' hSw; obtain ⟨q1, q2, q3⟩ := hSw; go_simp; first | done | with_reducible rfl)
    (try simp only [Act.put])
    refine wpAnyH_ready (rs := [3]) (by kernel_rfl) (by simp) ?_
    refine AllReadyH.cons rfl (fun K hK => ?_) AllReadyH.nil
    go_simp
    go_at_call 13
    refine (objDel Q w1.drew sb mb N s hS nm (by unfold maxLen; omega)).mono ?_
    rintro e w2 ⟨rfl, hS2, O2⟩
    have y2 := yd.ost O2 (fun q => zz1 q.symm) (fun q => zz2 q.symm)
    refine hK.out _ _ ⟨y2.cell 1 _ rfl, y2.cell 2 _ rfl, y2.cell 3 _ rfl⟩ (fun hHeld => ?_)
    clear hK K
    (try simp only [Act.put, List.setIfInBounds_toArray, List.set_cons_zero, List.set_cons_succ])
    have hD2 := Du.obj hR hS2 q1 q2 O2
    have hR2 := hD2.rf
    have zs2 : sb < w2.heap.size ∧ mb < w2.heap.size := ⟨hS2.bx.z, hS2.mlt⟩
    have hrq2 : RdP w2 (Ofl sb mb rb lb) bA bs.length bc bs := hrq.keep O2.size (fun p hp hl => O2.cell hl hp.1 hp.2.1)
    refine wpAnyH_ready (rs := [7]) (by kernel_rfl) (by simp) ?_
    refine AllReadyH.cons rfl (fun K hK => ?_) AllReadyH.nil
    go_simp
    go_at_call 29
    refine (refDel w2 sb mb rb lb r hR2 (by omega) zs2 nm).mono ?_
    rintro e w3 ⟨k, rfl, r2, lb2, hR3, hL3, O3, hl3⟩
    have y3 := y2.ost O3 (fun q => zz3 q.symm) (fun q => zz4 q.symm)
    refine hK.out _ _ ⟨y3.cell 1 _ rfl, y3.cell 2 _ rfl, y3.cell 3 _ rfl⟩ (fun hHeld => ?_)
    clear hK K
    (try simp only [Act.put, List.setIfInBounds_toArray, List.set_cons_zero, List.set_cons_succ])
    have hD3 := hD2.ref hR3 O3 hl3
    have HF := hide (And.intro hD3 (And.intro hL3 (And.intro ((QD.o1 O2).o2 O3) (And.intro hl3 (And.intro O2.size hz)))))
    clear hD3 hL3 O3 O2 hl3 hD2 hR2 hR3 hrq hrp hrq2 hS2 hS hQ q1 q2 hR hDd QD zs zs2 hz
    refine wpAnyH_take (i := 8) (v := ?_) rfl (by kernel_rfl) (by kernel_rfl) (by kernel_rfl) (fun _ _ _ h => h) (Or.inl ⟨by rfl, ?_⟩) hHeld ?_
    rotate_left 1
    · (intro w' hSw; obtain ⟨q1, q2, q3⟩ := hSw; go_simp; first | done | with_reducible rfl)
    (try simp only [Act.put, List.setIfInBounds_toArray])
    refine wpAnyH_take (i := 9) (v := ?_) rfl (by kernel_rfl) (by kernel_rfl) (by kernel_rfl) (fun _ _ _ h => h) (Or.inl ⟨by rfl, ?_⟩) hHeld ?_
    rotate_left 1
    · (intro w' hSw; obtain ⟨q1, q2, q3⟩ := hSw; go_simp; first | done | with_reducible rfl)
    (try simp only [Act.put])
    refine wpAnyH_done (by kernel_rfl) ?_ _
    go_wp2_with fail
    go_ret
    obtain ⟨a1, a2, a3, a4, a5, a6⟩ := HF.out
    exact HDE.out _ _ _ _ _ _ a1 (by omega) (le_del s nm) (by omega) a3 (a4.imp id (fun q => by omega))
  · subst h0
    go_upto_region 12 with fail
    have hbd := (Below.refl w1.heap.size w1).drew
    have hDd := HD1.out.keep hbd
    have yd := y.keep hbd y.z
    obtain ⟨Q, hS, hQ, q1, q2⟩ := hDd.prep
    have hR := hDd.rf
    have zs : sb < w1.drew.heap.size ∧ mb < w1.drew.heap.size := ⟨hS.bx.z, hS.mlt⟩
    have hrp : RdP w1.drew (fun k => k ≠ sb ∧ k ≠ mb) bA bs.length bc bs := .ofRd (hbR.below' hbd hbw1) hbw1 (fun k hk => ⟨by omega, by omega⟩)
    have hrq : RdP w1.drew (Ofl sb mb rb lb) bA bs.length bc bs := .ofRd (hbR.below' hbd hbw1) hbw1 (fun k hk => ⟨by omega, by omega, by omega, by omega⟩)
    have QD : Qst sb mb rb lb w1 w1.drew := Qst.refl.o1 (Ost.of hbd)
    have hz : w1.heap.size = w1.drew.heap.size := rfl
    clear hbR hkR hbd
    refine wp_region_held_drew (S := fun w' => w'.cell? ⟨wz, 1, none⟩ = some (.string nm) ∧ w'.cell? ⟨wz, 2, none⟩ = some (.string old) ∧ w'.cell? ⟨wz, 3, none⟩ = some (.slice bA bs.length bc)) (by kernel_rfl) ?_ (fun hHeld => ?_)
    · exact ⟨yd.cell 1 _ rfl, yd.cell 2 _ rfl, yd.cell 3 _ rfl⟩
    refine wpAnyH_take (i := 0) (v := ?_) rfl (by kernel_rfl) (by kernel_rfl) (by kernel_rfl) (fun _ _ _ h => h) (Or.inl ⟨by rfl, ?_⟩) hHeld ?_
    rotate_left 1
    · (intro w' hSw; obtain ⟨q1, q2, q3⟩ := hSw; go_simp; first | done | with_reducible rfl)
    (try simp only [Act.put, List.setIfInBounds_toArray])
    refine wpAnyH_take (i := 1) (v := ?_) rfl (by kernel_rfl) (by kernel_rfl) (by kernel_rfl) (fun _ _ _ h => h) (Or.inl ⟨by rfl, ?_⟩) hHeld ?_
    rotate_left 1
    · (intro w' hSw; obtain ⟨q1, q2, q3⟩ := hSw; go_simp; first | done | with_reducible rfl)
    (try simp only [Act.put])
    refine wpAnyH_take (i := 2) (v := ?_) rfl (by kernel_rfl) (by kernel_rfl) (by kernel_rfl) (fun _ _ _ h => h) (Or.inl ⟨by rfl, ?_⟩) hHeld ?_
    rotate_left 1
    · (intro w' hSw; obtain ⟨q1, q2, q3⟩ := hSw; go_simp; first | done | with_reducible rfl)
    (try simp only [Act.put])
    refine wpAnyH_take (i := 3) (v := ?_) rfl (by kernel_rfl) (by kernel_rfl) (by kernel_rfl) (fun _ _ _ h => h) (Or.inl ⟨by rfl, ?_⟩) hHeld ?_
    rotate_left 1
    · (intro w' hSw; obtain ⟨q1, q2, q3⟩ := hSw; go_simp; first | done | with_reducible rfl)
    (try simp only [Act.put])
    refine wpAnyH_take (i := 4) (v := ?_) rfl (by kernel_rfl) (by kernel_rfl) (by kernel_rfl) (fun _ _ _ h => h) (Or.inl ⟨by rfl, ?_⟩) hHeld ?_
    rotate_left 1
    · (intro w' hSw; obtain ⟨q1, q2, q3⟩ := hSw; go_simp; first | done | with_reducible rfl)
    (try simp only [Act.put])
    refine wpAnyH_take (i := 6) (v := ?_) rfl (by kernel_rfl) (by kernel_rfl) (by kernel_rfl) (fun _ _ _ h => h) (Or.inl ⟨by rfl, ?_⟩) hHeld ?_
    rotate_left 1
    · (intro w' hSw; obtain ⟨q1, q2, q3⟩ := hSw; go_simp; first | done | with_reducible rfl)
    (try simp only [Act.put])
    refine wpAnyH_take (i := 7) (v := ?_) rfl (by kernel_rfl) (by kernel_rfl) (by kernel_rfl) (fun _ _ _ h => h) (Or.inl ⟨by rfl, ?_⟩) hHeld ?_
    rotate_left 1
    · (intro w' hSw; obtain ⟨q1, q2, q3⟩ := hSw; go_simp; first | done | with_reducible rfl)
    (try simp only [Act.put])
    refine wpAnyH_take (i := 8) (v := ?_) rfl (by kernel_rfl) (by kernel_rfl) (by kernel_rfl) (fun _ _ _ h => h) (Or.inl ⟨by rfl, ?_⟩) hHeld ?_
    rotate_left 1
    · (intro w' hSw; obtain ⟨q1, q2, q3⟩ := hSw; go_simp; first | done | with_reducible rfl)
    (try simp only [Act.put])
    refine wpAnyH_take (i := 9) (v := ?_) rfl (by kernel_rfl) (by kernel_rfl) (by kernel_rfl) (fun _ _ _ h => h) (Or.inl ⟨by rfl, ?_⟩) hHeld ?_
    rotate_left 1
    · (intro w' hSw; obtain ⟨q1, q2, q3⟩ := hSw; go_simp; first | done | with_reducible rfl)
    (try simp only [Act.put])
    refine wpAnyH_take (i := 10) (v := ?_) rfl (by kernel_rfl) (by kernel_rfl) (by kernel_rfl) (fun _ _ _ h => h) (Or.inl ⟨by rfl, ?_⟩) hHeld ?_
    rotate_left 1
    · (intro w' hSw; obtain ⟨q1, q2, q3⟩ := hSw; go_simp; first | done | with_reducible rfl)
    (try simp only [Act.put])
    refine wpAnyH_ready (rs := [5]) (by kernel_rfl) (by simp) ?_
    refine AllReadyH.cons rfl (fun K hK => ?_) AllReadyH.nil
    go_simp
    go_at_call 21
    refine (objSwap Q w1.drew sb mb N s hS old nm).mono ?_
    rintro e w2 ⟨rfl, hS2, O2⟩
    have y2 := yd.ost O2 (fun q => zz1 q.symm) (fun q => zz2 q.symm)
    refine hK.out _ _ ⟨y2.cell 1 _ rfl, y2.cell 2 _ rfl, y2.cell 3 _ rfl⟩ (fun hHeld => ?_)
    clear hK K
    (try simp only [Act.put, List.setIfInBounds_toArray, List.set_cons_zero, List.set_cons_succ])
    have hD2 := Du.obj hR hS2 q1 q2 O2
    have hR2 := hD2.rf
    have zs2 : sb < w2.heap.size ∧ mb < w2.heap.size := ⟨hS2.bx.z, hS2.mlt⟩
    have hrq2 : RdP w2 (Ofl sb mb rb lb) bA bs.length bc bs := hrq.keep O2.size (fun p hp hl => O2.cell hl hp.1 hp.2.1)
    refine wpAnyH_ready (rs := [11]) (by kernel_rfl) (by simp) ?_
    refine AllReadyH.cons rfl (fun K hK => ?_) AllReadyH.nil
    go_simp
    go_at_call 30
    refine (refSwap w2 sb mb rb lb r hR2 old nm (by unfold maxLen; omega)).mono ?_
    rintro e w3 ⟨k, rfl, r2, lb2, hR3, hL3, O3, hl3⟩
    have y3 := y2.ost O3 (fun q => zz3 q.symm) (fun q => zz4 q.symm)
    refine hK.out _ _ ⟨y3.cell 1 _ rfl, y3.cell 2 _ rfl, y3.cell 3 _ rfl⟩ (fun hHeld => ?_)
    clear hK K
    (try simp only [Act.put, List.setIfInBounds_toArray, List.set_cons_zero, List.set_cons_succ])
    have hD3 := hD2.ref hR3 O3 hl3
    have HF := hide (And.intro hD3 (And.intro hL3 (And.intro ((QD.o1 O2).o2 O3) (And.intro hl3 (And.intro O2.size hz)))))
    clear hD3 hL3 O3 O2 hl3 hD2 hR2 hR3 hrq hrp hrq2 hS2 hS hQ q1 q2 hR hDd QD zs zs2 hz
    refine wpAnyH_take (i := 12) (v := ?_) rfl (by kernel_rfl) (by kernel_rfl) (by kernel_rfl) (fun _ _ _ h => h) (Or.inl ⟨by rfl, ?_⟩) hHeld ?_
    rotate_left 1
    · (intro w' hSw; obtain ⟨q1, q2, q3⟩ := hSw; go_simp; first | done | with_reducible rfl)
    (try simp only [Act.put, List.setIfInBounds_toArray])
    refine wpAnyH_take (i := 13) (v := ?_) rfl (by kernel_rfl) (by kernel_rfl) (by kernel_rfl) (fun _ _ _ h => h) (Or.inl ⟨by rfl, ?_⟩) hHeld ?_
    rotate_left 1
    · (intro w' hSw; obtain ⟨q1, q2, q3⟩ := hSw; go_simp; first | done | with_reducible rfl)
    (try simp only [Act.put])
    refine wpAnyH_done (by kernel_rfl) ?_ _
    go_wp2_with fail
    go_ret
    obtain ⟨a1, a2, a3, a4, a5, a6⟩ := HF.out
    exact HDE.out _ _ _ _ _ _ a1 (by omega) (le_swap s old nm) (by omega) a3 (a4.imp id (fun q => by omega))
  · subst h0
    have hDd := HD1.out
    obtain ⟨Q, hS, hQ, q1, q2⟩ := hDd.prep
    have hR := hDd.rf
    have zs : sb < w1.heap.size ∧ mb < w1.heap.size := ⟨hS.bx.z, hS.mlt⟩
    have y1 := y.cell 1 _ rfl
    go_wp2_with fail
    refine (objGet Q w1 sb mb N s hS nm (by unfold maxLen; omega) (small_at hsm)).mono ?_
    rintro e w2 ⟨hb2, A2, c2, rfl, hown2⟩
    have hDk := HD1.out.keep hb2
    have hR2 := hDk.rf
    have y1' := (y.keep hb2 y.z).cell 1 _ rfl
    have hr2 := rd_own hown2
    generalize s.get nm = gr at *
    obtain ⟨gl, gc⟩ := gr
    dsimp only at hr2 hown2 ⊢
    have s1 := run_str (P := Try.prog) w2 Try.underlying22 Try.underlying5 Try.underlying9 hr2
    have QD : Qst sb mb rb lb w1 w2 := Qst.refl.o1 (Ost.of hb2)
    have HF := hide (And.intro hDk QD)
    clear hown2 hr2 hDk QD hb2 hS hQ q1 q2 hR hDd zs
    go_wp2_with fail
    refine (refGetO w2 sb mb rb lb r hR2 nm).mono ?_
    rintro e w3 ⟨A3, c3, l3, k3, rfl, hr3, rfl⟩
    have s2 := run_str (P := Try.prog) w2 Try.underlying22 Try.underlying5 Try.underlying9 hr3.rd
    clear hr3 hR2
    obtain ⟨tb, htb⟩ : ∃ b, ((gc : Int) == k3) = b := ⟨_, rfl⟩
    cases tb with
    | true =>
      go_wp2_with fail
      go_ret
      obtain ⟨hDk, QD⟩ := HF.out
      exact HDE.out _ _ _ _ _ _ hDk (Nat.le_succ _) (.refl _ _) (by omega) QD (.inl rfl)
    | false =>
      go_wp2_with fail
      go_ret
      obtain ⟨hDk, QD⟩ := HF.out
      exact HDE.out _ _ _ _ _ _ hDk (Nat.le_succ _) (.refl _ _) (by omega) QD (.inl rfl)
  · subst h0
    have hDd := HD1.out
    obtain ⟨Q, hS, hQ, q1, q2⟩ := hDd.prep
    have hR := hDd.rf
    have zs : sb < w1.heap.size ∧ mb < w1.heap.size := ⟨hS.bx.z, hS.mlt⟩
    have y4 := y.cell 4 _ rfl
    go_wp2_with fail
    refine (objFuse Q w1 sb mb N s hS n ho4.2).mono ?_
    rintro e w2 ⟨rfl, hS2, O2⟩
    have y4' := (y.ost O2 (fun q => zz1 q.symm) (fun q => zz2 q.symm)).cell 4 _ rfl
    have hD2 := Du.obj hR hS2 q1 q2 O2
    have hR2 := hD2.rf
    have c3 := hR2.bx.cell 3 _ rfl
    have f3 := hR2.bx.free 3 (by simp)
    have QD : Qst sb mb rb lb w1 w2 := Qst.refl.o1 O2
    have HF := hide (And.intro hD2 (And.intro hR2 QD))
    clear hD2 hR2 hS2 O2 hS hQ q1 q2 hR hDd QD zs
    go_wp2_with fail
    go_ret
    obtain ⟨hD2, hR2, QD⟩ := HF.out
    have o3 := (Oth.refl rb w2).set 3 (.int .i64 (max n (-1)))
    have hR3 := hR2.box (s2 := { r with fu := max n (-1) }) o3 (hR2.bx.set (j := 3) (.int .i64 (max n (-1))) rfl) rfl rfl rfl hR2.q0 ⟨by show (-9223372036854775808 : Int) ≤ max n (-1); omega, by show max n (-1) ≤ 9223372036854775807; have := ho4.2; omega⟩ hR2.g0
    exact HDE.out _ _ _ _ _ _ (hD2.ref hR3 (Ost.ofOth o3) (.inl rfl)) (Nat.le_succ _) (.of rfl rfl) (by omega) (QD.o2 (Ost.ofOth o3)) (.inl rfl)
  · subst h0
    have hDd := HD1.out
    obtain ⟨Q, hS, hQ, q1, q2⟩ := hDd.prep
    have hR := hDd.rf
    have zs : sb < w1.heap.size ∧ mb < w1.heap.size := ⟨hS.bx.z, hS.mlt⟩
    have y4 := y.cell 4 _ rfl
    go_wp2_with fail
    refine (objFail Q w1 sb mb N s hS n ho4.2).mono ?_
    rintro e w2 ⟨rfl, hS2, O2⟩
    have y4' := (y.ost O2 (fun q => zz1 q.symm) (fun q => zz2 q.symm)).cell 4 _ rfl
    have hD2 := Du.obj hR hS2 q1 q2 O2
    have hR2 := hD2.rf
    have c3 := hR2.bx.cell 4 _ rfl
    have f3 := hR2.bx.free 4 (by simp)
    have QD : Qst sb mb rb lb w1 w2 := Qst.refl.o1 O2
    have HF := hide (And.intro hD2 (And.intro hR2 QD))
    clear hD2 hR2 hS2 O2 hS hQ q1 q2 hR hDd QD zs
    go_wp2_with fail
    go_ret
    obtain ⟨hD2, hR2, QD⟩ := HF.out
    have o3 := (Oth.refl rb w2).set 4 (.int .i64 (max n (-1)))
    have hR3 := hR2.box (s2 := { r with fa := max n (-1) }) o3 (hR2.bx.set (j := 4) (.int .i64 (max n (-1))) rfl) rfl rfl rfl hR2.q0 hR2.f0 ⟨by show (-9223372036854775808 : Int) ≤ max n (-1); omega, by show max n (-1) ≤ 9223372036854775807; have := ho4.2; omega⟩
    exact HDE.out _ _ _ _ _ _ (hD2.ref hR3 (Ost.ofOth o3) (.inl rfl)) (Nat.le_succ _) (.of rfl rfl) (by omega) (QD.o2 (Ost.ofOth o3)) (.inl rfl)
  · subst h0
    have hDd := HD1.out
    obtain ⟨Q, hS, hQ, q1, q2⟩ := hDd.prep
    have hR := hDd.rf
    have zs : sb < w1.heap.size ∧ mb < w1.heap.size := ⟨hS.bx.z, hS.mlt⟩
    have y5 := y.cell 5 _ rfl
    have hkw : ∀ wx, Ost sb mb w1 wx → Rd wx wx.heap.size 1 kA keep.length kc (keep.map (.int .i64)) := fun wx o => (hkR.below' (o.below hbase.1 hbase.2.1 hbw1) (Nat.le_refl _)).more (Nat.le_trans hbw1 o.size)
    have hlo := loose_len s.m
    go_wp2_with fail
    refine (objCrash Q w1 sb mb N s hS kA kc keep hkw (by omega)).mono ?_
    rintro e w2 ⟨rfl, hS2, O2⟩
    have y5' := (y.ost O2 (fun q => zz1 q.symm) (fun q => zz2 q.symm)).cell 5 _ rfl
    have hD2 := Du.obj hR hS2 q1 q2 O2
    have hR2 := hD2.rf
    have hk2 : ∀ wx, Below w2.heap.size w2 wx → Rd wx w2.heap.size 1 kA keep.length kc (keep.map (.int .i64)) := fun wx o => ((hkR.below' (O2.below hbase.1 hbase.2.1 hbw1) (Nat.le_refl _)).below' o (Nat.le_trans hbw1 O2.size)).more (Nat.le_trans hbw1 O2.size)
    have QD : Qst sb mb rb lb w1 w2 := Qst.refl.o1 O2
    have zs2 : sb < w2.heap.size ∧ mb < w2.heap.size := ⟨hS2.bx.z, hS2.mlt⟩
    have hz12 := O2.size
    have HF := hide (And.intro hD2 (And.intro hR2 QD))
    clear hD2 QD hS2 O2 hS hQ q1 q2 hR hDd zs hkw
    go_wp2_with fail
    refine (refCrash w2 sb mb rb lb r hR2 (by omega) zs2 kA kc keep hk2).mono ?_
    rintro e w3 ⟨rfl, r2, lb2, hR3, hL3, O3, hl3⟩
    clear hk2 hR2
    have HG := hide (And.intro hR3 (And.intro hL3 (And.intro O3 hl3)))
    clear hR3 hL3 O3 hl3
    go_wp2_with fail
    go_ret
    obtain ⟨hD2, hR2, QD⟩ := HF.out
    obtain ⟨hR3, hL3, O3, hl3⟩ := HG.out
    exact HDE.out _ _ _ _ _ _ (hD2.ref hR3 O3 hl3) (by omega) (le_crash s keep) (by omega) (QD.o2 O3) (hl3.imp id (fun q => by omega))
end Go.Proofs.Ytbgfmcmaklobaaa
