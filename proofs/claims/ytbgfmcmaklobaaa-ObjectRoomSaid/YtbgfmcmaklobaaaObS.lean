/- A STORE OF OBJECTS IN MEMORY; THE WALKS of its change, has, New. No statement of the seat is proved here; no condition but sizes. -/
import Derived.Test.YtbgfmcmaklobaaaObN
import Derived.Test.YtbgfmcmaklobaaaObIt
import Derived.Maps.OwnSet
import Derived.Maps.Views
import Derived.StringKeys
import Derived.BigRegion
namespace Go.Proofs.Ytbgfmcmaklobaaa
open Go.RowKit

theorem kMap : Try.prog.underlying 49 = some (.map 9 56) := Try.underlying49
/-- an element is held as it is -/
def elR (v : Value) : Option (DataW Value × List MemPlace) := some (.held v, [])
def zTh : Value := .agg #[.slice none 0 0, .bool false]
theorem zeroTh (w : World) : (zeroValue 56).run Try.prog w = .ok zTh w := by kernel_rfl
def kLit (s : ByteArray) : Lit := .string s.data.toList
theorem kLit_ne {s r : ByteArray} (h : r ≠ s) : kLit r ≠ kLit s := by
  intro q
  injection q with q
  exact h (bytes_same (by rw [ByteArray.toList_eq, ByteArray.toList_eq]; exact q))
theorem key_of (s : ByteArray) (hs : s.size ≤ maxLen) : keyOf Try.prog 9 (.string s) = some (kLit s) := Go.WideMaps.keyOf_string_mk Try.underlying9 hs
/-- block mb is the map of these objects, their bytes in blocks of P -/
structure MapR (P : Nat → Prop) (w : World) (mb N : Nat) (m : Mp) (D : DataW Value) : Prop where
  own : w.ownsMap Try.prog 9 elR mb N D
  has : ∀ s, Maps.has D (kLit s) = mhas m s
  at_ : ∀ s t, mget m s = some t → ∃ A c, D.atKey (kLit s) (.held zTh) = .held (.agg #[.slice A t.bs.length c, .bool t.loose]) ∧ RdP w P A t.bs.length c t.bs
  nP : ¬ P mb
section
variable {P Q : Nat → Prop} {w w' : World} {mb N c : Nat} {m : Mp} {D : DataW Value} {A : Option Addr} {bs : List UInt8} {lo : Bool}
theorem MapR.isMap (h : MapR P w mb N m D) : ∃ es c, w.heap[mb]? = some (.map es c) := by
  obtain ⟨es, c, hb, _⟩ := h.own
  exact ⟨es, c, hb⟩
theorem MapR.lt (h : MapR P w mb N m D) : mb < w.heap.size := h.own.lt
theorem MapR.move (h : MapR P w mb N m D) (hsz : w.heap.size ≤ w'.heap.size) (hmb : w'.heap[mb]? = w.heap[mb]?) (hk : ∀ p : Addr, P p.block → p.block < w.heap.size → w'.cell? p = w.cell? p) : MapR P w' mb N m D := by
  obtain ⟨es, c, hb, r⟩ := h.own
  refine ⟨⟨es, c, hmb.trans hb, r⟩, h.has, fun s t ht => ?_, h.nP⟩
  obtain ⟨A, c, h1, h2⟩ := h.at_ s t ht
  exact ⟨A, c, h1, h2.keep hsz hk⟩
theorem MapR.imp (h : MapR P w mb N m D) (hi : ∀ k, P k → k < w.heap.size → Q k) (hn : ¬ Q mb) : MapR Q w mb N m D :=
  ⟨h.own, h.has, fun s t ht => by obtain ⟨A, c, h1, h2⟩ := h.at_ s t ht; exact ⟨A, c, h1, h2.imp hi⟩, hn⟩
theorem MapR.keep (h : MapR P w mb N m D) (hb : Below w.heap.size w w') : MapR P w' mb N m D := h.move hb.size (hb.block mb h.lt) (fun p _ hl => hb.cell hl)
theorem mapR_new (P : Nat → Prop) (w : World) (hn : ¬ P w.heap.size) : MapR P (w.alloc (.map #[] 0)) w.heap.size 0 [] (.map []) :=
  ⟨World.ownsMap_made w _ _ _, fun s => rfl, fun s t ht => (by cases ht), hn⟩
/-- what the map tells of a name -/
theorem MapR.none (h : MapR P w mb N m D) {s : ByteArray} (hg : mget m s = none) (hs : s.size ≤ maxLen) :
    (Instr.lookup 49 (.map (some mb)) (.string s) true).run Try.prog w = .ok (.tuple #[zTh, .bool false]) w ∧ (Instr.lookup 49 (.map (some mb)) (.string s) false).run Try.prog w = .ok zTh w := by
  have hf : Maps.has D (kLit s) = false := by rw [h.has]; unfold mhas; rw [hg]; rfl
  constructor
  · obtain ⟨v, ps, h1, h2⟩ := h.own.look_ok kStr kMap (zeroTh w) (zd := .held zTh) (zp := []) rfl (key_of s hs)
    rw [Maps.atKey_of_not_has hf] at h2
    simp only [elR, Option.some.injEq, Prod.mk.injEq, DataW.held.injEq] at h2
    rw [h1, hf, h2.1]
  · obtain ⟨v, ps, h1, h2⟩ := h.own.lookup kStr kMap (zeroTh w) (zd := .held zTh) (zp := []) rfl (key_of s hs)
    rw [Maps.atKey_of_not_has hf] at h2
    simp only [elR, Option.some.injEq, Prod.mk.injEq, DataW.held.injEq] at h2
    rw [h1, h2.1]
theorem MapR.some_ (h : MapR P w mb N m D) {s : ByteArray} {t : Th} (hg : mget m s = some t) (hs : s.size ≤ maxLen) :
    ∃ A c, (Instr.lookup 49 (.map (some mb)) (.string s) true).run Try.prog w = .ok (.tuple #[.agg #[.slice A t.bs.length c, .bool t.loose], .bool true]) w ∧
      (Instr.lookup 49 (.map (some mb)) (.string s) false).run Try.prog w = .ok (.agg #[.slice A t.bs.length c, .bool t.loose]) w ∧ RdP w P A t.bs.length c t.bs := by
  have hf : Maps.has D (kLit s) = true := by rw [h.has]; unfold mhas; rw [hg]; rfl
  obtain ⟨A, c, ha, hr⟩ := h.at_ s t hg
  refine ⟨A, c, ?_, ?_, hr⟩
  · obtain ⟨v, ps, h1, h2⟩ := h.own.look_ok kStr kMap (zeroTh w) (zd := .held zTh) (zp := []) rfl (key_of s hs)
    rw [ha] at h2
    simp only [elR, Option.some.injEq, Prod.mk.injEq, DataW.held.injEq] at h2
    rw [h1, hf, h2.1]
  · obtain ⟨v, ps, h1, h2⟩ := h.own.lookup kStr kMap (zeroTh w) (zd := .held zTh) (zp := []) rfl (key_of s hs)
    rw [ha] at h2
    simp only [elR, Option.some.injEq, Prod.mk.injEq, DataW.held.injEq] at h2
    rw [h1, h2.1]
theorem MapR.put (h : MapR P w mb N m D) (hN : N ≤ 1000000) {s : ByteArray} (hs : s.size ≤ maxLen) (hr : RdP w P A bs.length c bs) :
    ∃ w' D', (Instr.mapUpdate 49 (.map (some mb)) (.string s) (.agg #[.slice A bs.length c, .bool lo])).run Try.prog w = .ok () w' ∧ MapR P w' mb (N + 1) (mput m s ⟨bs, lo⟩) D' ∧ w.grownBy w' (some mb) := by
  obtain ⟨w', hrun, hown, hg⟩ := h.own.update kStr kMap (by unfold maxLen; omega) (key_of s hs) (val := .agg #[.slice A bs.length c, .bool lo]) (d := .held (.agg #[.slice A bs.length c, .bool lo])) (ps := []) rfl
  have ht := h.own.tidy kStr
  have hcell : ∀ p : Addr, P p.block → p.block < w.heap.size → w'.cell? p = w.cell? p := fun p hp hl => World.cell?_of_block (w := w) (hg.block p.block hl (by intro q; injection q with q; rw [q] at hp; exact h.nP hp))
  refine ⟨w', _, hrun, ⟨hown, fun r => ?_, fun r t hrt => ?_, h.nP⟩, hg⟩
  · by_cases e : r = s
    · subst e
      rw [Maps.has_put_same ht.isMap (by trivial)]
      unfold mhas
      rw [mget_put_same]
      rfl
    · rw [Maps.has_put_other (kLit_ne e), h.has]
      unfold mhas
      rw [mget_put_other e]
  · by_cases e : r = s
    · subst e
      rw [mget_put_same] at hrt
      injection hrt with hrt
      subst hrt
      exact ⟨A, c, Maps.atKey_put_same ht.isMap (by trivial) _ _, hr.keep hg.size hcell⟩
    · rw [mget_put_other e] at hrt
      obtain ⟨A2, c2, h1, h2⟩ := h.at_ r t hrt
      exact ⟨A2, c2, (Maps.atKey_put_other (kLit_ne e) _ _).trans h1, h2.keep hg.size hcell⟩
end
/-- a store -/
structure StR (P : Nat → Prop) (w : World) (sb mb N : Nat) (s : So) : Prop where
  bx : BoxN w sb [.int .i64 s.quota, .int .i64 s.used, .map (some mb), .string s.cell, .int .i64 s.fuse, .int .i64 s.fault, .bool s.dead]
  mp : ∃ D, MapR P w mb N s.m D
  nP : ¬ P sb
  ne : sb ≠ mb
  ok : s.ok
/-- only blocks sb and mb turned -/
structure Ost (sb mb : Nat) (w w' : World) : Prop where
  os : w'.os = w.os
  tape : w'.tape = w.tape
  output : w'.output = w.output
  size : w.heap.size ≤ w'.heap.size
  block : ∀ k, k < w.heap.size → k ≠ sb → k ≠ mb → w'.heap[k]? = w.heap[k]?
section
variable {P Q : Nat → Prop} {u w w' : World} {sb mb N : Nat} {s : So}
theorem Ost.refl (sb mb : Nat) (w : World) : Ost sb mb w w := ⟨rfl, rfl, rfl, Nat.le_refl _, fun _ _ _ _ => rfl⟩
theorem Ost.trans (h : Ost sb mb u w) (k : Ost sb mb w w') : Ost sb mb u w' := ⟨k.os.trans h.os, k.tape.trans h.tape, k.output.trans h.output, Nat.le_trans h.size k.size, fun i hi h1 h2 => (k.block i (Nat.lt_of_lt_of_le hi h.size) h1 h2).trans (h.block i hi h1 h2)⟩
theorem Ost.of (h : Below w.heap.size w w') : Ost sb mb w w' := ⟨h.os, h.tape, h.output, h.size, fun k hk _ _ => h.block k hk⟩
theorem Ost.ofOth (h : Oth sb w w') : Ost sb mb w w' := ⟨h.os, h.tape, h.output, h.size, fun k hk h1 _ => h.block k hk h1⟩
theorem Ost.map (hg : w.grownBy w' (some mb)) : Ost sb mb w w' := ⟨hg.os, hg.tape, hg.output, hg.size, fun k hk _ h2 => hg.block k hk (by intro q; injection q with q; exact h2 q)⟩
theorem Ost.drew (h : Ost sb mb u w) : Ost sb mb u w.drew := ⟨h.os, h.tape, h.output, h.size, h.block⟩
theorem Ost.below (h : Ost sb mb w w') {B : Nat} (h1 : B ≤ sb) (h2 : B ≤ mb) (h3 : B ≤ w.heap.size) : Below B w w' := ⟨h.os, h.tape, h.output, h.size, fun k hk => h.block k (by omega) (by omega) (by omega)⟩
theorem Ost.cell (h : Ost sb mb w w') {p : Addr} (hp : p.block < w.heap.size) (h1 : p.block ≠ sb) (h2 : p.block ≠ mb) : w'.cell? p = w.cell? p := World.cell?_of_block (w := w) (h.block _ hp h1 h2)
theorem StR.keep (h : StR P w sb mb N s) (hb : Below w.heap.size w w') : StR P w' sb mb N s := ⟨h.bx.keep hb h.bx.z, by obtain ⟨D, hD⟩ := h.mp; exact ⟨D, hD.keep hb⟩, h.nP, h.ne, h.ok⟩
theorem StR.drew (h : StR P w sb mb N s) : StR P w.drew sb mb N s := h.keep ((Below.refl _ w).drew)
theorem StR.mono (h : StR P w sb mb N s) {N2 : Nat} (hN : N ≤ N2) : StR P w sb mb N2 s := ⟨h.bx, by obtain ⟨D, hD⟩ := h.mp; exact ⟨D, hD.own.mono hN, hD.has, hD.at_, hD.nP⟩, h.nP, h.ne, h.ok⟩
theorem StR.imp (h : StR P w sb mb N s) (hi : ∀ k, P k → k < w.heap.size → Q k) (h1 : ¬ Q sb) (h2 : ¬ Q mb) : StR Q w sb mb N s := ⟨h.bx, by obtain ⟨D, hD⟩ := h.mp; exact ⟨D, hD.imp hi h2⟩, h1, h.ne, h.ok⟩
theorem StR.mlt (h : StR P w sb mb N s) : mb < w.heap.size := by obtain ⟨D, hD⟩ := h.mp; exact hD.lt
/-- cells of the box turned -/
theorem StR.box (h : StR P w sb mb N s) (ho : Oth sb w w') {s2 : So} (hm : s2.m = s.m) (hk : s2.ok) (hb : BoxN w' sb [.int .i64 s2.quota, .int .i64 s2.used, .map (some mb), .string s2.cell, .int .i64 s2.fuse, .int .i64 s2.fault, .bool s2.dead]) : StR P w' sb mb N s2 := by
  obtain ⟨D, hD⟩ := h.mp
  refine ⟨hb, ⟨D, by rw [hm]; exact hD.move ho.size (ho.block mb hD.lt (fun q => h.ne q.symm)) (fun p hp hl => ho.cell hl (fun q => h.nP (by rw [← q]; exact hp)))⟩, h.nP, h.ne, hk⟩
/-- the map turned -/
theorem StR.map (h : StR P w sb mb N s) (hg : w.grownBy w' (some mb)) {N2 : Nat} {m2 : Mp} {D2 : DataW Value} (hM : MapR P w' mb N2 m2 D2) (hk : ({ s with m := m2 } : So).ok) : StR P w' sb mb N2 { s with m := m2 } := by
  have hbk : w'.heap[sb]? = w.heap[sb]? := hg.block sb h.bx.z (by intro q; injection q with q; exact h.ne q)
  exact ⟨⟨fun j v hj => (World.cell?_of_block (w := w) (a := ⟨sb, j, none⟩) hbk).trans (h.bx.cell j v hj), fun j hj => (World.frozen?_of_block (w := w) (a := ⟨sb, j, none⟩) hbk).trans (h.bx.free j hj), Nat.lt_of_lt_of_le h.bx.z hg.size⟩, ⟨D2, hM⟩, h.nP, h.ne, hk⟩
end
/-- what a call on a store ends with -/
def StEnd (P : Nat → Prop) (w : World) (sb mb N : Nat) (r : So × Nat) (e : Ending) (w' : World) : Prop :=
  e = .returned (.int .i64 (r.2 : Int)) ∧ StR P w' sb mb N r.1 ∧ Ost sb mb w w'
set_option maxRecDepth 100000 in
set_option maxHeartbeats 2000000 in
theorem objChange (P : Nat → Prop) (w : World) (sb mb N : Nat) (s : So) (h : StR P w sb mb N s) : Calls Try.prog 24 #[.pointer (some ⟨sb, 0, none⟩)] w (StEnd P w sb mb N s.change) := by
  have c4 := h.bx.cell 4 _ rfl
  have c5 := h.bx.cell 5 _ rfl
  have c6 := h.bx.cell 6 _ rfl
  have f4 := h.bx.free 4 (by simp)
  have f5 := h.bx.free 5 (by simp)
  have f6 := h.bx.free 6 (by simp)
  by_cases h0 : s.fuse = 0
  · have t8 : (s.fuse == 0) = true := by rw [beq_iff_eq]; exact h0
    have hc : s.change = ({ s with dead := true }, 120) := by unfold So.change; rw [if_pos h0]
    have HC := hide hc
    have hk := h.ok.change
    rw [hc] at hk
    have HK := hide hk
    clear h0 hc hk
    go_enter Try.func24, Try.ntmps24
    go_wp2_with fail
    go_ret
    rw [HC.out]
    exact ⟨rfl, h.box ((Oth.refl sb w).set 6 _) rfl HK.out (h.bx.set (j := 6) (.bool true) rfl), .ofOth ((Oth.refl sb w).set 6 _)⟩
  · have t8 : (s.fuse == 0) = false := by rw [beq_eq_false_iff_ne]; exact h0
    obtain ⟨q1, q2, q3, q4, q5, q6, q7, q8, q9⟩ := h.ok
    have hc : s.change = ({ s with fuse := max (s.fuse - 1) (-1), fault := max (s.fault - 1) (-1) }, if s.fault = 0 then 121 else 0) := by unfold So.change; rw [if_neg h0]
    have hk := h.ok.change
    rw [hc] at hk
    have HK := hide hk
    have HC := hide hc
    have w1 : wrap64 (s.fuse - 1) = s.fuse - 1 := IntWalk.wrap64_in _ ⟨by omega, by omega⟩
    have w2 : wrap64 (s.fault - 1) = s.fault - 1 := IntWalk.wrap64_in _ ⟨by omega, by omega⟩
    obtain ⟨fb, hfb⟩ : ∃ b, b = (s.fault == 0) := ⟨_, rfl⟩
    have t16 : (s.fault == 0) = fb := hfb.symm
    have HFB := hide hfb
    clear h0 hc hk hfb q1 q2 q3 q4 q9
    go_enter Try.func24, Try.ntmps24
    go_upto_region 5 with fail
    go_region
    have X := ((h.bx.set (j := 4) (.int .i64 (max (s.fuse - 1) (-1))) rfl).set (j := 5) (.int .i64 (max (s.fault - 1) (-1))) rfl).oth (Oth.refl (sb + 1) _).drew (by omega)
    have O := (((Oth.refl sb w).set 4 (.int .i64 (max (s.fuse - 1) (-1)))).set 5 (.int .i64 (max (s.fault - 1) (-1)))).drew
    generalize ((w.setCell ⟨sb, 4, none⟩ (.int .i64 (max (s.fuse - 1) (-1)))).setCell ⟨sb, 5, none⟩ (.int .i64 (max (s.fault - 1) (-1)))).drew = w3 at *
    have HX := hide X
    clear X c4 c5 c6 f4 f5 f6
    cases fb with
    | true =>
      have he : s.fault = 0 := by have := HFB.out; rw [eq_comm, beq_iff_eq] at this; exact this
      have HE := hide he
      clear he t16 t8
      go_wp2_with fail
      go_ret
      rw [HC.out, if_pos HE.out]
      exact ⟨rfl, h.box O rfl HK.out HX.out, .ofOth O⟩
    | false =>
      have he : ¬ s.fault = 0 := by have := HFB.out; rw [eq_comm, beq_eq_false_iff_ne] at this; exact this
      have HE := hide he
      clear he t16 t8
      go_wp2_with fail
      go_ret
      rw [HC.out, if_neg HE.out]
      exact ⟨rfl, h.box O rfl HK.out HX.out, .ofOth O⟩
set_option maxRecDepth 100000 in
theorem objHas (P : Nat → Prop) (w : World) (sb mb N : Nat) (s : So) (h : StR P w sb mb N s) (nm : ByteArray) (hn : nm.size ≤ maxLen) : Calls Try.prog 23 #[.pointer (some ⟨sb, 0, none⟩), .string nm] w fun e w' => e = .returned (.bool (mhas s.m nm)) ∧ Below w.heap.size w w' := by
  have c2 := h.bx.cell 2 _ rfl
  obtain ⟨D, hD⟩ := h.mp
  cases hg : mget s.m nm with
  | none =>
    have hk := (hD.none hg hn).1
    have HM : Hid (mhas s.m nm = false) := hide (by unfold mhas; rw [hg]; rfl)
    unfold zTh at hk
    clear hg hD
    go_enter Try.func23, Try.ntmps23
    go_wp2_with fail
    go_ret
    exact ⟨by rw [HM.out]; rfl, (Below.refl _ _).alloc (Nat.le_refl _) _⟩
  | some t =>
    obtain ⟨A, c, hk, _, _⟩ := hD.some_ hg hn
    have HM : Hid (mhas s.m nm = true) := hide (by unfold mhas; rw [hg]; rfl)
    clear hg hD
    go_enter Try.func23, Try.ntmps23
    go_wp2_with fail
    go_ret
    exact ⟨by rw [HM.out]; rfl, (Below.refl _ _).alloc (Nat.le_refl _) _⟩
set_option maxRecDepth 100000 in
theorem objNew (P : Nat → Prop) (w : World) (q : Int) (q0 : -9223372036854775808 ≤ q) (q1 : q ≤ 9223372036854775807) (hP : ∀ k, P k → k < w.heap.size ∨ w.heap.size + 2 ≤ k) : Calls Try.prog 7 #[.int .i64 q] w fun e w' => e = .returned (.pointer (some ⟨w.heap.size + 1, 0, none⟩)) ∧ StR P w' (w.heap.size + 1) w.heap.size 0 (So.new q) ∧ Below w.heap.size w w' ∧ w'.heap.size = w.heap.size + 2 := by
  have hmm := @run_makeMap Try.prog
  have hM := mapR_new P w (fun hk => by have := hP _ hk; omega)
  have hb1 := (Below.refl w.heap.size w).alloc (Nat.le_refl _) (.map #[] 0)
  have z1 : (w.alloc (.map #[] 0)).heap.size = w.heap.size + 1 := by simp
  go_enter Try.func7, Try.ntmps7
  go_wp2_with fail
  generalize w.alloc (.map #[] 0) = w1 at *
  have x := boxN_new w1 #[.int .i64 (max 0 q), .int .i64 0, .map (some w.heap.size), .string ⟨#[]⟩, .int .i64 (-1), .int .i64 (-1), .bool false] 51
  have hb2 := (Below.refl w1.heap.size w1).alloc (Nat.le_refl _) (.cells #[.int .i64 (max 0 q), .int .i64 0, .map (some w.heap.size), .string ⟨#[]⟩, .int .i64 (-1), .int .i64 (-1), .bool false] 51)
  have z2 : (w1.alloc (.cells #[.int .i64 (max 0 q), .int .i64 0, .map (some w.heap.size), .string ⟨#[]⟩, .int .i64 (-1), .int .i64 (-1), .bool false] 51)).heap.size = w.heap.size + 2 := by simp; omega
  rw [z1] at x
  go_ret
  refine ⟨rfl, ⟨x, ⟨_, hM.keep hb2⟩, fun hk => by have := hP _ hk; omega, by omega, ?_⟩, below_call hb1 hb1.size hb2, z2⟩
  exact ⟨by show 0 ≤ max 0 q; omega, by show max 0 q ≤ _; omega, rfl, by show (0 : Int) ≤ max 0 q; omega, (by show (-1 : Int) ≤ -1; decide), (by show (-1 : Int) ≤ 9223372036854775807; decide), (by show (-1 : Int) ≤ -1; decide), (by show (-1 : Int) ≤ 9223372036854775807; decide), List.Pairwise.nil⟩
end Go.Proofs.Ytbgfmcmaklobaaa
