/- PLAIN: a table's bytes; what an append to bytes leaves as it was. No statement of the seat is proved here; no condition. -/
import Derived.Test.YtlccpchlclpnaaaDoorD6
import Derived.Lib.AppendStr
import Derived.Lib.SlBytesConst
import Derived.ArgAppend
namespace Go.Proofs.YtlccpchlclpnaaaDoor
open Go.RowKit

/-- appends to bytes above B were done: whatever is no row of bytes there is as it was -/
structure Bz (B : Nat) (w w' : World) : Prop where
  os : w'.os = w.os
  tape : w'.tape = w.tape
  output : w'.output = w.output
  size : w.heap.size ≤ w'.heap.size
  blk : ∀ k, k < w.heap.size → k < B → w'.heap[k]? = w.heap[k]?
  oth : ∀ (k : Nat) (arr : Array Value) (t : TypeId) (f : Nat × Nat), w.heap[k]? = some (Obj.cells arr t f) → t ≠ 5 → w'.heap[k]? = some (Obj.cells arr t f)
section
variable {B : Nat} {u w w' : World}
theorem Bz.refl (B : Nat) (w : World) : Bz B w w := ⟨rfl, rfl, rfl, Nat.le_refl _, fun _ _ _ => rfl, fun _ _ _ _ h _ => h⟩
theorem Bz.trans (h : Bz B u w) (k : Bz B w w') : Bz B u w' :=
  ⟨k.os.trans h.os, k.tape.trans h.tape, k.output.trans h.output, Nat.le_trans h.size k.size, fun i hi hb => (k.blk i (Nat.lt_of_lt_of_le hi h.size) hb).trans (h.blk i hi hb), fun i arr t f ha hne => k.oth i arr t f (h.oth i arr t f ha hne) hne⟩
theorem Bz.of (h : Below w.heap.size w w') : Bz B w w' :=
  ⟨h.os, h.tape, h.output, h.size, fun k hk _ => h.block k hk, fun k _ _ _ ha _ => (h.block k (Array.getElem?_eq_some_iff.1 ha).1).trans ha⟩
theorem Bz.below (h : Bz B w w') (hB : B ≤ w.heap.size) : Below B w w' := ⟨h.os, h.tape, h.output, h.size, fun k hk => h.blk k (Nat.lt_of_lt_of_le hk hB) hk⟩
theorem Bz.grown {n : Nat} {v : Value} {xs : List Value} (ho : w.ownsRow B 5 1 v n xs) (hg : w.grownBy w' v.ownBlock) : Bz B w w' := by
  refine ⟨hg.os, hg.tape, hg.output, hg.size, fun k hk hb => ?_, fun k arr t f ha hne => ?_⟩
  · refine hg.block k hk fun q => ?_
    have := (ho.lt k q.symm).1
    omega
  · refine (hg.block k (Array.getElem?_eq_some_iff.1 ha).1 fun q => ?_).trans ha
    rcases ho.2 with ⟨rfl, _⟩ | ⟨g, cap, cur, rfl, _, hgc, _⟩
    · cases q
    · simp only [Value.ownBlock] at q
      injection q with q
      subst q
      rw [ha] at hgc
      injection hgc with hgc
      injection hgc with _ q2 _
      exact hne q2
theorem BoxT.bz {b : Nat} {cs : List Value} {t : TypeId} (h : BoxT w b cs t) (hb : Bz B w w') (hne : t ≠ 5) : BoxT w' b cs t := by
  obtain ⟨arr, ha⟩ := h.ty
  have hbk : w'.heap[b]? = w.heap[b]? := (hb.oth b arr t (0, 0) ha hne).trans ha.symm
  exact ⟨⟨fun j v hj => (World.cell?_of_block (w := w) (a := ⟨b, j, none⟩) hbk).trans (h.bx.cell j v hj), fun j hj => (World.frozen?_of_block (w := w) (a := ⟨b, j, none⟩) hbk).trans (h.bx.free j hj), Nat.lt_of_lt_of_le h.bx.z hb.size⟩, arr, hbk.trans ha⟩
end
/-- bytes of one's own -/
def Buf (B : Nat) (l : List UInt8) (v : Value) (w : World) : Prop := w.ownsRow B 5 1 v l.length (bytesV l)
section
variable {ops : Array Oper} {rest : List Oper} {o : Oper} {a : Act} {Q : Exit → Act → World → Prop} {w : World} {B : Nat} {l news : List UInt8} {v : Value}
/-- 'append(b, x..)' -/
theorem wpList_buf (hgd : o.guard = none) (s x : Operand) (ho : o.op = .call { callee := .builtin .append, args := #[s, x], argTypes := #[34, 34] }) (hs : a.eval s = v) (hb : Buf B l v w)
    (A : Option Addr) (m c B2 : Nat) (hx : a.eval x = .slice A m c) (hr : Rd w B2 1 A m c (bytesV news)) (hlen : l.length + news.length ≤ 1000000) (hB : B ≤ w.heap.size)
    (h : ∀ v' w', Buf B (l ++ news) v' w' → Bz B w w' → wpList Tryd.prog ops Q rest (a.put o.dst v') w') : wpList Tryd.prog ops Q (o :: rest) a w := by
  obtain rfl : m = news.length := by have := hr.len; rw [bytesV_length] at this; omega
  refine wpList_app _ tyBytes hgd s x ho B v _ _ hs hb B2 A _ c _ hx hr (bytesV_one _) (by omega) hB fun v' w' h1 h2 _ => h v' w' ?_ (Bz.grown hb h2)
  unfold Buf
  rw [List.length_append, bytesV_append]
  exact h1
/-- 'append(b, s..)', s a string -/
theorem wpList_bufS (hgd : o.guard = none) (s x : Operand) (ho : o.op = .call { callee := .builtin .append, args := #[s, x], argTypes := #[34, 9] }) (hs : a.eval s = v) (hb : Buf B l v w)
    (st : ByteArray) (hx : a.eval x = .string st) (hlen : l.length + st.size ≤ 1000000) (hB : B ≤ w.heap.size)
    (h : ∀ v' w', Buf B (l ++ st.data.toList) v' w' → Bz B w w' → wpList Tryd.prog ops Q rest (a.put o.dst v') w') : wpList Tryd.prog ops Q (o :: rest) a w := by
  obtain ⟨ti, hti, hti1, hti2, hti3⟩ := info_parts tyBytes.inf
  refine Go.Lib.wpList_append_own_string _ hgd s x 34 9 ho B 5 ti Tryd.underlying34 Tryd.underlying9 hti hti1 hti2 hti3 v _ _ hs hb st hx (by unfold maxLen; omega) (by omega) hB fun v' w' h1 h2 _ => h v' w' ?_ (Bz.grown hb h2)
  unfold Buf
  rw [List.length_append, bytesV_append]
  exact h1
end
theorem Buf.keep {w w' : World} {B : Nat} {l : List UInt8} {v : Value} (h : Buf B l v w) (hb : Below w.heap.size w w') : Buf B l v w' := own_below h hb
theorem own_slice {w : World} {base sz n : Nat} {e : TypeId} {v : Value} {xs : List Value} (h : w.ownsRow base e sz v n xs) : ∃ A c, v = .slice A n c := by
  obtain ⟨A, c, e, _⟩ := Rd.of_own h
  exact ⟨A, c, e⟩
theorem put_pos (n : Nat) : 0 < (Var.put n).length := by
  rw [Var.put]
  split <;> simp
set_option maxRecDepth 100000 in
theorem wpList_bufNew {ops : Array Oper} {rest : List Oper} {o : Oper} {a : Act} {Q : Exit → Act → World → Prop} {w : World} {B2 b0 : Nat} {l news : List UInt8} {v2 : Value} (hgd : o.guard = none) (s x : Operand) (ho : o.op = .call { callee := .builtin .append, args := #[s, x], argTypes := #[34, 34] })
    (hs : a.eval s = .slice (some ⟨b0, 0, none⟩) l.length l.length) (hold : ∀ j u, (bytesV l)[j]? = some u → w.cell? ⟨b0, j, none⟩ = some u) (hx : a.eval x = v2) (hown : w.ownsRow B2 5 1 v2 news.length (bytesV news)) (hpos : 0 < news.length) (hlen : l.length + news.length ≤ 1000000)
    (h : ∀ v' w', Buf w.heap.size (l ++ news) v' w' → Below w.heap.size w w' → wpList Tryd.prog ops Q rest (a.put o.dst v') w') : wpList Tryd.prog ops Q (o :: rest) a w := by
  obtain ⟨ti, hti, hti1, hti2, hti3⟩ := info_parts tyBytes.inf
  obtain ⟨g, c, rfl, _, _⟩ := hown.form hpos
  refine wpList_append_grows _ hgd s x 34 ho 5 ti _ 1 1 Tryd.underlying34 hti hti1 hti2 hti3 tyBytes.zs (by decide) (some ⟨b0, 0, none⟩) l.length l.length (bytesV l) hs (by simp) (by rw [bytesV_length, Nat.mul_one]) (fun b hb j u hj => ?_) ⟨g, 0, none⟩ news.length c (bytesV news) hx (by rw [bytesV_length, Nat.mul_one]) (fun j u hj => ?_) (bytesV_one _) (by omega) (by unfold maxLen; omega) (by omega) (fun v' w' h1 h2 => h v' w' ?_ ⟨h2.os, h2.tape, h2.output, h2.size, fun k hk => h2.block k hk (by simp)⟩)
  · injection hb with hb
    subst hb
    rw [Addr.add_lit, Nat.zero_add]
    exact hold j u hj
  · rw [Addr.add_lit, Nat.zero_add]
    have hjl : j < (bytesV news).length := (List.getElem?_eq_some_iff.1 hj).1
    rw [hown.cellAt j (by rw [bytesV_length] at hjl; omega)]
    exact hj
  · unfold Buf
    rw [List.length_append, bytesV_append]
    exact h1
/-! ### a table's bytes -/
def tx (s : ByteArray) : List UInt8 := Var.put s.size ++ s.data.toList
def txs (l : List ByteArray) : List UInt8 := l.flatMap tx
def nums (p : Sn) : List Nat := [p.id.toNat, p.par.toNat, p.seq.toNat, p.off.toNat, p.tim.toNat, p.sch.toNat, p.ms.length]
def putAll (l : List Nat) : List UInt8 := l.flatMap Var.put
def snB (p : Sn) : List UInt8 := putAll (nums p) ++ txs p.ms
def snBs (l : List Sn) : List UInt8 := l.flatMap snB
def packs (l : List Ps) : List UInt8 := l.flatMap fun s => pack s.1 s.2
def tf1 : List UInt8 := [84, 70, 49]
def wr0 (ss : List Ps) : List UInt8 := tf1 ++ Var.put ss.length
def wr1 (ss : List Ps) (ns : List Sn) : List UInt8 := wr0 ss ++ packs ss ++ Var.put ns.length
def wrT (ss : List Ps) (ns : List Sn) : List UInt8 := wr1 ss ns ++ snBs ns
section
variable {α : Type} {f : α → List UInt8} {l : List α} {k : Nat}
theorem flat_next [Inhabited α] (hk : k < l.length) : (l.take (k + 1)).flatMap f = (l.take k).flatMap f ++ f (l.getD k default) := by
  rw [List.take_add_one, List.flatMap_append]
  simp [hk, List.getD]
theorem flat_le {m : Nat} (h : ∀ a ∈ l, (f a).length ≤ m) : (l.flatMap f).length ≤ l.length * m := by
  induction l with
  | nil => simp
  | cons a l ih =>
    rw [List.flatMap_cons, List.length_append, List.length_cons, Nat.succ_mul]
    have h1 := h a (by simp)
    have h2 := ih (fun b hb => h b (by simp [hb]))
    omega
end
theorem put_le10' (n : Nat) (h : n < 18446744073709551616) : (Var.put n).length ≤ 10 := Var.put_le10 h
theorem pack_le {id : UInt32} {l : List Fd} (h : check id l = 0) : (pack id l).length ≤ 400 := by
  have h8 := (check_len h).2.2
  have hn := check_names h
  have hid := id.toNat_lt
  have e1 := put_le10' id.toNat (by omega)
  have e2 := put_le10' l.length (by omega)
  have e3 : (packFs l).length ≤ l.length * 47 := flat_le fun f hf => by
    have hs := hn f hf
    have a1 := put_le10' f.id.toNat (by have := f.id.toNat_lt; omega)
    have a2 := put_le10' f.name.size (by omega)
    have a3 := put_le10' f.kind.toNat (by have := f.kind.toNat_lt; omega)
    have a4 : f.name.data.toList.length = f.name.size := by rw [Array.length_toList]; rfl
    unfold packF
    simp only [List.length_append, List.length_cons, List.length_nil]
    omega
  unfold pack
  simp only [List.length_append]
  have : l.length * 47 ≤ 8 * 47 := Nat.mul_le_mul_right _ h8
  omega
theorem path_le {s : ByteArray} (h : pathOk s = true) : s.size ≤ 24 := by
  unfold pathOk at h
  simp only [Bool.and_eq_true, decide_eq_true_eq] at h
  exact h.1.2
theorem tx_le {s : ByteArray} (h : s.size ≤ 24) : (tx s).length ≤ 34 := by
  have e1 := put_le10' s.size (by omega)
  have a4 : s.data.toList.length = s.size := by rw [Array.length_toList]; rfl
  unfold tx
  rw [List.length_append]
  omega
theorem names_at {l : List ByteArray} (h : namesOk l = true) : l.length ≤ 8 ∧ ∀ s ∈ l, s.size ≤ 24 := by
  refine ⟨names_len h, fun s hs => ?_⟩
  obtain ⟨j, hj, rfl⟩ := List.mem_iff_getElem.1 hs
  unfold namesOk at h
  simp only [Bool.and_eq_true, decide_eq_true_eq, List.all_eq_true, List.mem_range] at h
  have := (h.2 j hj).1
  rw [getD_at _ _ hj] at this
  exact path_le this
theorem txs_le {l : List ByteArray} (h : namesOk l = true) : (txs l).length ≤ 272 := by
  obtain ⟨h8, hs⟩ := names_at h
  have e : (txs l).length ≤ l.length * 34 := flat_le fun s hm => tx_le (hs s hm)
  have : l.length * 34 ≤ 8 * 34 := Nat.mul_le_mul_right _ h8
  omega
theorem nums_le {p : Sn} (h : p.ms.length ≤ 8) : ∀ n ∈ nums p, n < 18446744073709551616 := by
  have := p.id.toNat_lt
  have := p.par.toNat_lt
  have := p.seq.toNat_lt
  have := p.off.toNat_lt
  have := p.tim.toNat_lt
  have := p.sch.toNat_lt
  intro n hn
  simp only [nums, List.mem_cons, List.mem_nil_iff, or_false] at hn
  rcases hn with rfl | rfl | rfl | rfl | rfl | rfl | rfl <;> omega
theorem putAll_le {l : List Nat} (h : ∀ n ∈ l, n < 18446744073709551616) : (putAll l).length ≤ l.length * 10 := flat_le fun n hn => put_le10' n (h n hn)
theorem snB_le {p : Sn} (h : namesOk p.ms = true) : (snB p).length ≤ 342 := by
  have h1 := putAll_le (nums_le (names_len h))
  have h2 := txs_le h
  have h3 : (nums p).length = 7 := rfl
  unfold snB
  rw [List.length_append]
  omega
/-- what a table that may be has -/
theorem right_has {ss : List Ps} {ns : List Sn} {cur : Nat} (h : rightP ss ns cur = true) : (1 ≤ ss.length ∧ ss.length ≤ 16 ∧ ns.length ≤ 32) ∧ (∀ s ∈ ss, check s.1 s.2 = 0) ∧ ∀ s ∈ ns, namesOk s.ms = true := by
  unfold rightP at h
  simp only [Bool.and_eq_true, decide_eq_true_eq, List.all_eq_true, List.mem_range] at h
  obtain ⟨hl, hs, hn, hc⟩ := h
  refine ⟨hl, fun s hm => ?_, fun s hm => ?_⟩
  · obtain ⟨j, hj, rfl⟩ := List.mem_iff_getElem.1 hm
    have := hs j hj
    unfold sOk at this
    simp only [Bool.and_eq_true, decide_eq_true_eq] at this
    have h1 := this.1
    rw [getD_at _ _ hj] at h1
    exact h1
  · obtain ⟨j, hj, rfl⟩ := List.mem_iff_getElem.1 hm
    have := hn j hj
    unfold nOk at this
    simp only [Bool.and_eq_true, decide_eq_true_eq] at this
    have h1 := this.2.2.2.2.2.2.2.2.1
    rw [getD_at _ _ hj] at h1
    exact h1
theorem packs_le {ss : List Ps} (h : ∀ s ∈ ss, check s.1 s.2 = 0) : (packs ss).length ≤ ss.length * 400 := flat_le fun s hs => pack_le (h s hs)
theorem snBs_le {ns : List Sn} (h : ∀ s ∈ ns, namesOk s.ms = true) : (snBs ns).length ≤ ns.length * 342 := flat_le fun s hs => snB_le (h s hs)
theorem sized_of {id : UInt32} {l : List Fd} (h : check id l = 0) : Sized l := by
  refine ⟨by have := (check_len h).2.2; omega, fun j hj => ?_⟩
  have := check_names h (l.getD j default) (getD_mem hj)
  omega
/-- a table's bytes, sealed -/
def wrS (ss : List Ps) (ns : List Sn) : List UInt8 := seal_ (wrT ss ns)
def WrEnd (w : World) (ss : List Ps) (ns : List Sn) (cur : Nat) (e : Ending) (w' : World) : Prop :=
  (rightP ss ns cur = true ∧ ∃ v, e = .returned (.tuple #[v, .int .i64 0]) ∧ w'.ownsRow w.heap.size 5 1 v (wrS ss ns).length (bytesV (wrS ss ns)) ∧ Below w.heap.size w w') ∨
  (rightP ss ns cur = false ∧ e = .returned (.tuple #[.slice none 0 0, .int .i64 1]) ∧ Below w.heap.size w w')
end Go.Proofs.YtlccpchlclpnaaaDoor
