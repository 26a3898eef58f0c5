/- WHAT APPENDS TO BYTES LEAVE AS IT WAS; the writer's box; the walks of the document's num and Text. No statement of the seat is proved here; no condition. -/
import Derived.Test.YtbcnekaagkdmeaaDoorEnP
import Derived.Lib.AppendStr
import Derived.Lib.SlBytesConst
import Derived.ArgAppend
namespace Go.Proofs.YtbcnekaagkdmeaaDoor
open Go.RowKit

/-- appends to bytes above B were done: whatever is no row of bytes there is as it was -/
structure Bz (B : Nat) (w w' : World) : Prop where
  os : w'.os = w.os
  tape : w'.tape = w.tape
  output : w'.output = w.output
  size : w.heap.size ≤ w'.heap.size
  blk : ∀ k, k < w.heap.size → k < B → w'.heap[k]? = w.heap[k]?
  oth : ∀ (k : Nat) (arr : Array Value) (t : TypeId) (f : Nat × Nat), w.heap[k]? = some (Obj.cells arr t f) → t ≠ 5 → w'.heap[k]? = some (Obj.cells arr t f)
section
variable {B : Nat} {u w w' : World}
theorem Bz.refl (B : Nat) (w : World) : Bz B w w := ⟨rfl, rfl, rfl, Nat.le_refl _, fun _ _ _ => rfl, fun _ _ _ _ h _ => h⟩
theorem Bz.trans (h : Bz B u w) (k : Bz B w w') : Bz B u w' :=
  ⟨k.os.trans h.os, k.tape.trans h.tape, k.output.trans h.output, Nat.le_trans h.size k.size, fun i hi hb => (k.blk i (Nat.lt_of_lt_of_le hi h.size) hb).trans (h.blk i hi hb), fun i arr t f ha hne => k.oth i arr t f (h.oth i arr t f ha hne) hne⟩
theorem Bz.of (h : Below w.heap.size w w') : Bz B w w' :=
  ⟨h.os, h.tape, h.output, h.size, fun k hk _ => h.block k hk, fun k _ _ _ ha _ => (h.block k (Array.getElem?_eq_some_iff.1 ha).1).trans ha⟩
theorem Bz.below (h : Bz B w w') (hB : B ≤ w.heap.size) : Below B w w' := ⟨h.os, h.tape, h.output, h.size, fun k hk => h.blk k (Nat.lt_of_lt_of_le hk hB) hk⟩
theorem Bz.grown {n : Nat} {v : Value} {xs : List Value} (ho : w.ownsRow B 5 1 v n xs) (hg : w.grownBy w' v.ownBlock) : Bz B w w' := by
  refine ⟨hg.os, hg.tape, hg.output, hg.size, fun k hk hb => ?_, fun k arr t f ha hne => ?_⟩
  · refine hg.block k hk fun q => ?_
    have := (ho.lt k q.symm).1
    omega
  · refine (hg.block k (Array.getElem?_eq_some_iff.1 ha).1 fun q => ?_).trans ha
    rcases ho.2 with ⟨rfl, _⟩ | ⟨g, cap, cur, rfl, _, hgc, _⟩
    · cases q
    · simp only [Value.ownBlock] at q
      injection q with q
      subst q
      rw [ha] at hgc
      injection hgc with hgc
      injection hgc with _ q2 _
      exact hne q2
theorem BoxT.bz {b : Nat} {cs : List Value} {t : TypeId} (h : BoxT w b cs t) (hb : Bz B w w') (hne : t ≠ 5) : BoxT w' b cs t := by
  obtain ⟨arr, ha⟩ := h.ty
  have hbk : w'.heap[b]? = w.heap[b]? := (hb.oth b arr t (0, 0) ha hne).trans ha.symm
  exact ⟨⟨fun j v hj => (World.cell?_of_block (w := w) (a := ⟨b, j, none⟩) hbk).trans (h.bx.cell j v hj), fun j hj => (World.frozen?_of_block (w := w) (a := ⟨b, j, none⟩) hbk).trans (h.bx.free j hj), Nat.lt_of_lt_of_le h.bx.z hb.size⟩, arr, hbk.trans ha⟩
end
/-- bytes of one's own -/
def Buf (B : Nat) (l : List UInt8) (v : Value) (w : World) : Prop := w.ownsRow B 5 1 v l.length (bytesV l)
section
variable {ops : Array Oper} {rest : List Oper} {o : Oper} {a : Act} {Q : Exit → Act → World → Prop} {w : World} {B : Nat} {l news : List UInt8} {v : Value}
/-- 'append(b, x..)' -/
theorem wpList_buf (hgd : o.guard = none) (s x : Operand) (ho : o.op = .call { callee := .builtin .append, args := #[s, x], argTypes := #[25, 25] }) (hs : a.eval s = v) (hb : Buf B l v w)
    (A : Option Addr) (m c B2 : Nat) (hx : a.eval x = .slice A m c) (hr : Rd w B2 1 A m c (bytesV news)) (hlen : l.length + news.length ≤ 1000000) (hB : B ≤ w.heap.size)
    (h : ∀ v' w', Buf B (l ++ news) v' w' → Bz B w w' → wpList Tryd.prog ops Q rest (a.put o.dst v') w') : wpList Tryd.prog ops Q (o :: rest) a w := by
  obtain rfl : m = news.length := by have := hr.len; rw [bytesV_length] at this; omega
  refine wpList_app _ tyBytes hgd s x ho B v _ _ hs hb B2 A _ c _ hx hr (bytesV_one _) (by omega) hB fun v' w' h1 h2 _ => h v' w' ?_ (Bz.grown hb h2)
  unfold Buf
  rw [List.length_append, bytesV_append]
  exact h1
/-- 'append(b, s..)', s a string -/
theorem wpList_bufS (hgd : o.guard = none) (s x : Operand) (ho : o.op = .call { callee := .builtin .append, args := #[s, x], argTypes := #[25, 9] }) (hs : a.eval s = v) (hb : Buf B l v w)
    (st : ByteArray) (hx : a.eval x = .string st) (hlen : l.length + st.size ≤ 1000000) (hB : B ≤ w.heap.size)
    (h : ∀ v' w', Buf B (l ++ st.data.toList) v' w' → Bz B w w' → wpList Tryd.prog ops Q rest (a.put o.dst v') w') : wpList Tryd.prog ops Q (o :: rest) a w := by
  obtain ⟨ti, hti, hti1, hti2, hti3⟩ := info_parts tyBytes.inf
  refine Go.Lib.wpList_append_own_string _ hgd s x 25 9 ho B 5 ti Tryd.underlying25 Tryd.underlying9 hti hti1 hti2 hti3 v _ _ hs hb st hx (by unfold maxLen; omega) (by omega) hB fun v' w' h1 h2 _ => h v' w' ?_ (Bz.grown hb h2)
  unfold Buf
  rw [List.length_append, bytesV_append]
  exact h1
end
theorem Buf.keep {w w' : World} {B : Nat} {l : List UInt8} {v : Value} (h : Buf B l v w) (hb : Below w.heap.size w w') : Buf B l v w' := own_below h hb
theorem put_pos (n : Nat) : 0 < (Var.put n).length := by
  rw [Var.put]
  split <;> simp
set_option maxRecDepth 100000 in
theorem wpList_bufNew {ops : Array Oper} {rest : List Oper} {o : Oper} {a : Act} {Q : Exit → Act → World → Prop} {w : World} {B2 b0 : Nat} {l news : List UInt8} {v2 : Value} (hgd : o.guard = none) (s x : Operand) (ho : o.op = .call { callee := .builtin .append, args := #[s, x], argTypes := #[25, 25] })
    (hs : a.eval s = .slice (some ⟨b0, 0, none⟩) l.length l.length) (hold : ∀ j u, (bytesV l)[j]? = some u → w.cell? ⟨b0, j, none⟩ = some u) (hx : a.eval x = v2) (hown : w.ownsRow B2 5 1 v2 news.length (bytesV news)) (hpos : 0 < news.length) (hlen : l.length + news.length ≤ 1000000)
    (h : ∀ v' w', Buf w.heap.size (l ++ news) v' w' → Below w.heap.size w w' → wpList Tryd.prog ops Q rest (a.put o.dst v') w') : wpList Tryd.prog ops Q (o :: rest) a w := by
  obtain ⟨ti, hti, hti1, hti2, hti3⟩ := info_parts tyBytes.inf
  obtain ⟨g, c, rfl, _, _⟩ := hown.form hpos
  refine wpList_append_grows _ hgd s x 25 ho 5 ti _ 1 1 Tryd.underlying25 hti hti1 hti2 hti3 tyBytes.zs (by decide) (some ⟨b0, 0, none⟩) l.length l.length (bytesV l) hs (by simp) (by rw [bytesV_length, Nat.mul_one]) (fun b hb j u hj => ?_) ⟨g, 0, none⟩ news.length c (bytesV news) hx (by rw [bytesV_length, Nat.mul_one]) (fun j u hj => ?_) (bytesV_one _) (by omega) (by unfold maxLen; omega) (by omega) (fun v' w' h1 h2 => h v' w' ?_ ⟨h2.os, h2.tape, h2.output, h2.size, fun k hk => h2.block k hk (by simp)⟩)
  · injection hb with hb
    subst hb
    rw [Addr.add_lit, Nat.zero_add]
    exact hold j u hj
  · rw [Addr.add_lit, Nat.zero_add]
    have hjl : j < (bytesV news).length := (List.getElem?_eq_some_iff.1 hj).1
    rw [hown.cellAt j (by rw [bytesV_length] at hjl; omega)]
    exact hj
  · unfold Buf
    rw [List.length_append, bytesV_append]
    exact h1
/-! ### the writer's box -/
/-- the writer at b wrote, its bytes lie above B -/
structure Wz (b B : Nat) (w w' : World) : Prop where
  os : w'.os = w.os
  tape : w'.tape = w.tape
  output : w'.output = w.output
  size : w.heap.size ≤ w'.heap.size
  blk : ∀ k, k < w.heap.size → k < B → k ≠ b → w'.heap[k]? = w.heap[k]?
  oth : ∀ (k : Nat) (o : Obj), w.heap[k]? = some o → (∀ arr f, o ≠ .cells arr 5 f) → k ≠ b → w'.heap[k]? = some o
section
variable {b B : Nat} {u w w' : World}
theorem Wz.refl (b B : Nat) (w : World) : Wz b B w w := ⟨rfl, rfl, rfl, Nat.le_refl _, fun _ _ _ _ => rfl, fun _ _ h _ _ => h⟩
theorem Wz.trans (h : Wz b B u w) (k : Wz b B w w') : Wz b B u w' :=
  ⟨k.os.trans h.os, k.tape.trans h.tape, k.output.trans h.output, Nat.le_trans h.size k.size, fun i hi hb hne => (k.blk i (Nat.lt_of_lt_of_le hi h.size) hb hne).trans (h.blk i hi hb hne), fun i o ha hne hb => k.oth i o (h.oth i o ha hne hb) hne hb⟩
theorem Wz.of (h : Below w.heap.size w w') : Wz b B w w' :=
  ⟨h.os, h.tape, h.output, h.size, fun k hk _ _ => h.block k hk, fun k _ ha _ _ => (h.block k (Array.getElem?_eq_some_iff.1 ha).1).trans ha⟩
theorem Wz.ofOth (h : Oth b w w') : Wz b B w w' :=
  ⟨h.os, h.tape, h.output, h.size, fun k hk _ hne => h.block k hk hne, fun k _ ha _ hne => (h.block k (Array.getElem?_eq_some_iff.1 ha).1 hne).trans ha⟩
theorem Wz.drew (h : Wz b B u w) : Wz b B u w.drew := ⟨h.os, h.tape, h.output, h.size, h.blk, h.oth⟩
theorem Wz.alloc (h : Wz b B u w) (o : Obj) : Wz b B u (w.alloc o) := h.trans (.of ((Below.refl _ _).alloc (Nat.le_refl _) o))
theorem Wz.set (h : Wz b B u w) (j : Nat) (x : Value) : Wz b B u (w.setCell ⟨b, j, none⟩ x) := h.trans (.ofOth ((Oth.refl b w).set j x))
theorem Wz.below (h : Wz b B w w') {B0 : Nat} (h1 : B0 ≤ b) (h2 : B0 ≤ B) (h3 : B0 ≤ w.heap.size) : Below B0 w w' := ⟨h.os, h.tape, h.output, h.size, fun k hk => h.blk k (by omega) (by omega) (by omega)⟩
theorem Wz.grown {n : Nat} {v : Value} {xs : List Value} (ho : w.ownsRow B 5 1 v n xs) (hg : w.grownBy w' v.ownBlock) : Wz b B w w' := by
  refine ⟨hg.os, hg.tape, hg.output, hg.size, fun k hk hb _ => ?_, fun k o ha hne _ => ?_⟩
  · refine hg.block k hk fun q => ?_
    have := (ho.lt k q.symm).1
    omega
  · refine (hg.block k (Array.getElem?_eq_some_iff.1 ha).1 fun q => ?_).trans ha
    rcases ho.2 with ⟨rfl, _⟩ | ⟨g, cap, cur, rfl, _, hgc, _⟩
    · cases q
    · simp only [Value.ownBlock] at q
      injection q with q
      subst q
      rw [ha] at hgc
      injection hgc with hgc
      exact hne _ _ hgc
theorem BoxT.wz {k : Nat} {cs : List Value} {t : TypeId} (h : BoxT w k cs t) (hb : Wz b B w w') (hk : k ≠ b) (hne : t ≠ 5) : BoxT w' k cs t := by
  obtain ⟨arr, ha⟩ := h.ty
  have hbk : w'.heap[k]? = w.heap[k]? := (hb.oth k _ ha (fun _ _ q => hne (by injection q)) hk).trans ha.symm
  exact ⟨⟨fun j v hj => (World.cell?_of_block (w := w) (a := ⟨k, j, none⟩) hbk).trans (h.bx.cell j v hj), fun j hj => (World.frozen?_of_block (w := w) (a := ⟨k, j, none⟩) hbk).trans (h.bx.free j hj), Nat.lt_of_lt_of_le h.bx.z hb.size⟩, arr, hbk.trans ha⟩
theorem BoxN.wz {k : Nat} {cs : List Value} (h : BoxN w k cs) (hb : Wz b B w w') (hk : k < B) (hne : k ≠ b) : BoxN w' k cs := by
  have hbk : w'.heap[k]? = w.heap[k]? := hb.blk k h.z hk hne
  exact ⟨fun j v hj => (World.cell?_of_block (w := w) (a := ⟨k, j, none⟩) hbk).trans (h.cell j v hj), fun j hj => (World.frozen?_of_block (w := w) (a := ⟨k, j, none⟩) hbk).trans (h.free j hj), Nat.lt_of_lt_of_le h.z hb.size⟩
end
theorem own_setT {w : World} {b : Nat} {cs : List Value} {t : TypeId} {base sz n : Nat} {e : TypeId} {v : Value} {xs : List Value} (h : w.ownsRow base e sz v n xs) (hb : BoxT w b cs t) (hne : e ≠ t) (j : Nat) (x : Value) : (w.setCell ⟨b, j, none⟩ x).ownsRow base e sz v n xs := by
  obtain ⟨arr, ha⟩ := hb.ty
  refine h.kept (row := some b) ⟨rfl, rfl, rfl, by simp [World.setCell], fun k _ hne => Below.heap_setCell _ _ _ _ (fun q => hne (by rw [q]))⟩ ?_
  rcases h.2 with ⟨rfl, _⟩ | ⟨g, cap, cur, rfl, _, hc, _⟩
  · exact .inl rfl
  · refine .inr fun q => ?_
    simp only [Value.ownBlock] at q
    injection q with q
    subst q
    rw [ha] at hc
    injection hc with hc
    injection hc with _ q2 _
    exact hne q2.symm
/-- the writer's box b, its bytes (one's own, above B) -/
structure WB (w : World) (b B : Nat) (A : Option Addr) (c : Nat) (l : List UInt8) : Prop where
  bx : BoxT w b [.slice A l.length c] 56
  le : B ≤ w.heap.size
  own : w.ownsRow B 5 1 (.slice A l.length c) l.length (bytesV l)
section
variable {b B c : Nat} {u w w' : World} {A : Option Addr} {l : List UInt8}
theorem WB.keep (h : WB w b B A c l) (hb : Below w.heap.size w w') : WB w' b B A c l := ⟨h.bx.keep hb, Nat.le_trans h.le hb.size, own_below h.own hb⟩
theorem WB.drew (h : WB w b B A c l) : WB w.drew b B A c l := h.keep ((Below.refl _ w).drew)
theorem WB.c0 (h : WB w b B A c l) : w.cell? ⟨b, 0, none⟩ = some (.slice A l.length c) := h.bx.bx.cell 0 _ rfl
theorem WB.z (h : WB w b B A c l) : b < w.heap.size := h.bx.bx.z
theorem WB.put (h : WB w b B A c l) {p : List UInt8} {w8 : World} {g cap : Nat} (hown : w8.ownsRow B 5 1 (.slice (some ⟨g, 0, none⟩) (l.length + p.length) cap) (l.length + p.length) (bytesV l ++ bytesV p)) (hg : w.grownBy w8 (Value.slice A l.length c).ownBlock) :
    w8.cell? ⟨b, 0, none⟩ = some (.slice A l.length c) ∧ w8.frozen? ⟨b, 0, none⟩ = false ∧ WB (w8.setCell ⟨b, 0, none⟩ (.slice (some ⟨g, 0, none⟩) (l.length + p.length) cap)) b B (some ⟨g, 0, none⟩) cap (l ++ p) ∧ Wz b B w (w8.setCell ⟨b, 0, none⟩ (.slice (some ⟨g, 0, none⟩) (l.length + p.length) cap)) := by
  have bx := h.bx.grown h.own hg (by decide)
  have e1 : (l ++ p).length = l.length + p.length := List.length_append
  have hs := hg.size
  have hle := h.le
  refine ⟨bx.bx.cell 0 _ rfl, bx.bx.free 0 (by simp), ⟨?_, by simp; omega, ?_⟩, (Wz.grown h.own hg).set 0 _⟩
  · rw [e1]; exact bx.set (j := 0) _ rfl
  · rw [e1, bytesV_append]; exact own_setT hown bx (by decide) 0 _
end
def WEnd (w : World) (b B : Nat) (l : List UInt8) (e : Ending) (w' : World) : Prop :=
  e = .returned (.tuple #[]) ∧ (∃ A c, WB w' b B A c l) ∧ Wz b B w w'
theorem put_byte {n : Nat} (h : n < 128) : (Var.put n).length = 1 ∧ [Value.int .u8 (n : Int)] = bytesV (Var.put n) := by
  rw [Var.put, if_pos h]
  refine ⟨rfl, ?_⟩
  simp only [bytesV, List.map_cons, List.map_nil, byteV, UInt8.toNat_ofNat', List.cons.injEq, and_true, Value.int.injEq, true_and]
  omega
set_option maxRecDepth 100000 in
theorem refNum13 (w : World) (B : Nat) (l : List UInt8) (v : Value) (n : Int) (h0 : 0 ≤ n) (h1 : n ≤ 18446744073709551615) (hb : Buf B l v w) (hB : B ≤ w.heap.size) (hl : l.length ≤ 900000) :
    Calls Tryd.prog 24 #[v, .int .u64 n] w fun e w' => ∃ v', e = .returned v' ∧ Buf B (l ++ Var.put n.toNat) v' w' ∧ Bz B w w' := by
  have hp := Var.put_le10 (n := n.toNat) (by omega)
  go_enter Tryd.func24, Tryd.ntmps24
  go_wp2_with fail
  refine (refPut n w h0 h1).mono ?_
  rintro e w1 ⟨v1, rfl, hown1, hb1⟩
  obtain ⟨A1, c1, rfl⟩ := own_slice hown1
  have hbuf1 := hb.keep hb1
  have hr1 := rd_own hown1
  have hB1 : B ≤ w1.heap.size := Nat.le_trans hB hb1.size
  go_wp2_with (at_builtin; refine wpList_buf rfl (.tmp 5) (.tmp 7) rfl rfl hbuf1 A1 _ c1 _ rfl hr1 (by omega) hB1 ?_; intro v2 w2 hbuf2 hz2)
  go_ret
  exact ⟨v2, rfl, hbuf2, (Bz.of hb1).trans hz2⟩
set_option maxRecDepth 100000 in
theorem refText13 (w : World) (B : Nat) (l : List UInt8) (v : Value) (s : ByteArray) (hb : Buf B l v w) (hB : B ≤ w.heap.size) (hl : l.length + s.size ≤ 900000) :
    Calls Tryd.prog 25 #[v, .string s] w fun e w' => ∃ v', e = .returned v' ∧ Buf B (l ++ tx s) v' w' ∧ Bz B w w' := by
  have e33 : IntKind.u64.wrap (s.size : Int) = (s.size : Int) := by rw [IntKind.wrap_u64]; omega
  have e34 : (s.size : Int) % 18446744073709551616 = (s.size : Int) := by omega
  have hp := Var.put_le10 (n := s.size) (by omega)
  go_enter Tryd.func25, Tryd.ntmps25
  go_wp2_with fail
  refine (refNum13 w B l v (s.size : Int) (by omega) (by omega) hb hB (by omega)).mono ?_
  rintro e w1 ⟨v1, rfl, hbuf1, hz1⟩
  rw [Int.toNat_natCast] at hbuf1
  have hB1 : B ≤ w1.heap.size := Nat.le_trans hB hz1.size
  have hl1 : (l ++ Var.put s.size).length = l.length + (Var.put s.size).length := List.length_append
  clear e33 e34
  go_wp2_with (at_builtin; refine wpList_bufS rfl (.tmp 9) (.tmp 10) rfl rfl hbuf1 s rfl (by omega) hB1 ?_; intro v3 w3 hbuf3 hz3)
  go_ret
  refine ⟨v3, rfl, ?_, hz1.trans hz3⟩
  unfold tx
  rw [← List.append_assoc]
  exact hbuf3
end Go.Proofs.YtbcnekaagkdmeaaDoor
