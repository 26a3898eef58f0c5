/- GENERAL WORDS AND LAWS OF MY OWN: slices that read, append onto an own row, conversion to text. No statement of the seat is proved here; no condition. -/
import Derived.WalkKit
import Derived.WalkSpells
import Derived.WalkLawsBesides
import Derived.Deep.Draws
import Derived.Deep.AppendLies
import Derived.Maps.AppendAt
import Derived.BigQuiet
import Derived.Deep.QuietTactic
import Derived.Deep.RegionWith
import Derived.Handy
namespace Go.Proofs.Ytlccpchlclpnaaa
open Go.RowKit

theorem hide {p : Prop} (h : p) : Hid p := h

/-! ### Slices that read a list of cells -/
structure Rd (w : World) (B sz : Nat) (A : Option Addr) (n c : Nat) (xs : List Value) : Prop where
  len : xs.length = n * sz
  le : n ≤ c
  cap : c ≤ maxLen
  at_ : 0 < n → ∃ b off, A = some ⟨b, off, none⟩ ∧ b < B ∧ ∀ j u, xs[j]? = some u → w.cell? ⟨b, off + j, none⟩ = some u

section
variable {w w' : World} {B B' sz n c : Nat} {A : Option Addr} {xs : List Value}

theorem Rd.keep (h : Rd w B sz A n c xs) (hk : ∀ p : Addr, p.block < B → w'.cell? p = w.cell? p) : Rd w' B sz A n c xs :=
  ⟨h.len, h.le, h.cap, fun hn => by
    obtain ⟨b, off, e, hb, hc⟩ := h.at_ hn
    exact ⟨b, off, e, hb, fun j u hu => (hk ⟨b, off + j, none⟩ hb).trans (hc j u hu)⟩⟩
theorem Rd.more (h : Rd w B sz A n c xs) (hB : B ≤ B') : Rd w B' sz A n c xs :=
  ⟨h.len, h.le, h.cap, fun hn => by
    obtain ⟨b, off, e, hb, hc⟩ := h.at_ hn
    exact ⟨b, off, e, Nat.lt_of_lt_of_le hb hB, hc⟩⟩
theorem Rd.below (h : Rd w B sz A n c xs) (hb : Below B w w') : Rd w' B sz A n c xs := h.keep fun _ hp => hb.cell hp
theorem Rd.below' (h : Rd w B sz A n c xs) (hb : Below B' w w') (hB : B ≤ B') : Rd w' B sz A n c xs := h.keep fun _ hp => hb.cell (Nat.lt_of_lt_of_le hp hB)
theorem Rd.alloc (h : Rd w B sz A n c xs) (hB : B ≤ w.heap.size) (o : Obj) : Rd (w.alloc o) B sz A n c xs := h.below ((Below.refl B w).alloc hB o)
theorem Rd.drew (h : Rd w B sz A n c xs) : Rd w.drew B sz A n c xs := h.keep fun _ _ => rfl
theorem Rd.cellAt (h : Rd w B sz A n c xs) {k : Nat} (hk : k < xs.length) : ∃ b off, A = some ⟨b, off, none⟩ ∧ b < B ∧ w.cell? ⟨b, off + k, none⟩ = some xs[k] := by
  have hn : 0 < n := by
    rcases Nat.eq_zero_or_pos n with h0 | h0
    · have := h.len; rw [h0] at this; omega
    · exact h0
  obtain ⟨b, off, e, hb, hc⟩ := h.at_ hn
  exact ⟨b, off, e, hb, hc k _ (List.getElem?_eq_getElem hk)⟩
theorem Rd.nil (w : World) (B sz : Nat) : Rd w B sz none 0 0 [] := ⟨by simp, Nat.le_refl _, Nat.zero_le _, fun h => absurd h (by omega)⟩
theorem Rd.of_own {base : Nat} {e : TypeId} {v : Value} (h : w.ownsRow base e sz v n xs) : ∃ A c, v = .slice A n c ∧ Rd w w.heap.size sz A n c xs := by
  rcases h.2 with ⟨rfl, rfl⟩ | ⟨g, cap, cur, rfl, hb, hg, hnc, hm, hcur, htake⟩
  · have hx : xs = [] := List.eq_nil_of_length_eq_zero (by simpa using h.1)
    subst hx
    exact ⟨none, 0, rfl, Rd.nil _ _ _⟩
  · refine ⟨some ⟨g, 0, none⟩, cap, rfl, h.1, hnc, hm, fun _ => ⟨g, 0, rfl, (Array.getElem?_eq_some_iff.1 hg).1, fun j u hu => ?_⟩⟩
    have := World.ownsRow.cells (w := w) h (g := g) rfl j u hu
    simpa [Addr.add_lit] using this
/-- a literal's block -/
theorem Rd.lit (w : World) (e : TypeId) (cs : Array Value) (hl : cs.size = n * sz) (hm : n ≤ maxLen) :
    Rd (w.alloc (.cells cs e)) (w.heap.size + 1) sz (some ⟨w.heap.size, 0, none⟩) n n cs.toList :=
  ⟨by simpa using hl, Nat.le_refl _, hm, fun _ => ⟨w.heap.size, 0, rfl, by omega, fun j u hu => by
    rw [cell_of_row _ _ _ cs e (0, 0) (heap_alloc_new w _)]
    simpa using hu⟩⟩
/-- a beginning 's[:hi]' -/
theorem Rd.pre (h : Rd w B sz A n c xs) {hi : Nat} (h2 : hi ≤ n) : Rd w B sz A hi c (xs.take (hi * sz)) :=
  ⟨by rw [List.length_take, h.len]; exact Nat.min_eq_left (Nat.mul_le_mul_right _ h2), Nat.le_trans h2 h.le, h.cap, fun hn => by
    obtain ⟨b, off, e, hb, hc⟩ := h.at_ (by omega)
    refine ⟨b, off, e, hb, fun j u hu => hc j u ?_⟩
    have hj : j < hi * sz := by
      have := (List.getElem?_eq_some_iff.1 hu).1
      simp at this
      omega
    rwa [List.getElem?_take, if_pos hj] at hu⟩
/-- a cut 's[lo:hi]' -/
theorem Rd.cut (h : Rd w B sz A n c xs) {lo hi : Nat} (h1 : lo ≤ hi) (h2 : hi ≤ n) :
    Rd w B sz (if c = lo then A else A.map (·.add (lo * sz))) (hi - lo) (c - lo) ((xs.drop (lo * sz)).take ((hi - lo) * sz)) := by
  refine ⟨?_, by have := h.le; omega, by have := h.cap; omega, fun hn => ?_⟩
  · rw [List.length_take, List.length_drop, h.len, ← Nat.sub_mul]
    exact Nat.min_eq_left (Nat.mul_le_mul_right _ (by omega))
  · obtain ⟨b, off, rfl, hb, hc⟩ := h.at_ (by omega)
    rw [if_neg (by have := h.le; omega)]
    refine ⟨b, off + lo * sz, by simp [Addr.add_lit], hb, fun j u hu => ?_⟩
    rw [Nat.add_assoc]
    refine hc _ u ?_
    have hj : j < (hi - lo) * sz := by
      have := (List.getElem?_eq_some_iff.1 hu).1
      simp at this
      omega
    rw [List.getElem?_take, if_pos hj, List.getElem?_drop] at hu
    exact hu
end

/-! ### Types of slices -/
structure STy (P : Program) (t e : TypeId) (sz by_ : Nat) (z : Value) : Prop where
  ut : P.underlying t = some (.slice e)
  inf : (P.info? e).map (fun i => (i.zero, i.size, i.bytes)) = some (some z, sz, by_)
  zs : z.cells.size = sz
  pos : 0 < sz
  bpos : 0 < by_

/-! ### cuts, as equations for the walk -/
section
variable {P : Program} {t e : TypeId} {sz by_ : Nat} {z : Value}
theorem run_cut_hi (T : STy P t e sz by_ z) (A : Option Addr) (n c : Nat) (k : IntKind) (h : Int) (hi : Nat) (he : h = (hi : Int)) (h2 : hi ≤ c) (w : World) :
    (Instr.slice t (.slice A n c) none (some (.int k h)) none).run P w = .ok (.slice A hi c) w := by
  obtain ⟨i, hi', hz, hs, hb⟩ := info_parts T.inf
  subst he
  have e0 : A.map (fun x => x.add 0) = A := by cases A <;> simp [Addr.add]
  simp [Instr.slice, run_underlying T.ut, Instr.sliceBounds, run_sliceBound, sizeOf, typeInfo, hi', h2, e0]
theorem run_cut_lo (T : STy P t e sz by_ z) (A : Option Addr) (n c : Nat) (k : IntKind) (l : Int) (lo : Nat) (he : l = (lo : Int)) (h1 : lo ≤ n) (_h2 : n ≤ c) (w : World) :
    (Instr.slice t (.slice A n c) (some (.int k l)) none none).run P w = .ok (.slice (if c = lo then A else A.map (·.add (lo * sz))) (n - lo) (c - lo)) w := by
  obtain ⟨i, hi', hz, hs, hb⟩ := info_parts T.inf
  subst he
  simp [Instr.slice, run_underlying T.ut, Instr.sliceBounds, run_sliceBound, sizeOf, typeInfo, hi', h1, hs]
theorem run_cut_both (T : STy P t e sz by_ z) (A : Option Addr) (n c : Nat) (k k' : IntKind) (l h : Int) (lo hi : Nat) (he : l = (lo : Int)) (he' : h = (hi : Int)) (h1 : lo ≤ hi) (h2 : hi ≤ c) (w : World) :
    (Instr.slice t (.slice A n c) (some (.int k l)) (some (.int k' h)) none).run P w = .ok (.slice (if c = lo then A else A.map (·.add (lo * sz))) (hi - lo) (c - lo)) w := by
  obtain ⟨i, hi', hz, hs, hb⟩ := info_parts T.inf
  subst he
  subst he'
  simp [Instr.slice, run_underlying T.ut, Instr.sliceBounds, run_sliceBound, sizeOf, typeInfo, hi', h1, h2, hs]
theorem cut_hi (T : STy P t e sz by_ z) (A : Option Addr) (n c : Nat) (k : IntKind) (h : Int) (hi : Nat) (he : h = (hi : Int)) (h2 : hi ≤ c) (w : World) :
    (Instr.sliceAt t (.slice A n c) none (some (.int k h)) none).run P w = .ok (.slice A hi c) w := by
  simp only [Instr.sliceAt, Sem.run_bind, run_underlying T.ut, Result.andThen]
  exact run_cut_hi T A n c k h hi he h2 w
theorem cut_lo (T : STy P t e sz by_ z) (A : Option Addr) (n c : Nat) (k : IntKind) (l : Int) (lo : Nat) (he : l = (lo : Int)) (h1 : lo ≤ n) (h2 : n ≤ c) (w : World) :
    (Instr.sliceAt t (.slice A n c) (some (.int k l)) none none).run P w = .ok (.slice (if c = lo then A else A.map (·.add (lo * sz))) (n - lo) (c - lo)) w := by
  simp only [Instr.sliceAt, Sem.run_bind, run_underlying T.ut, Result.andThen]
  exact run_cut_lo T A n c k l lo he h1 h2 w
theorem cut_both (T : STy P t e sz by_ z) (A : Option Addr) (n c : Nat) (k k' : IntKind) (l h : Int) (lo hi : Nat) (he : l = (lo : Int)) (he' : h = (hi : Int)) (h1 : lo ≤ hi) (h2 : hi ≤ c) (w : World) :
    (Instr.sliceAt t (.slice A n c) (some (.int k l)) (some (.int k' h)) none).run P w = .ok (.slice (if c = lo then A else A.map (·.add (lo * sz))) (hi - lo) (c - lo)) w := by
  simp only [Instr.sliceAt, Sem.run_bind, run_underlying T.ut, Result.andThen]
  exact run_cut_both T A n c k k' l h lo hi he he' h1 h2 w
end

/-! ### append onto a row of the call's own -/
section
variable {P : Program} (w : World)

theorem run_app {t e : TypeId} {sz by_ : Nat} {z : Value} (T : STy P t e sz by_ z) (base : Nat) (ty : TypeId)
    (v : Value) (n : Nat) (xs : List Value) (hown : w.ownsRow base e sz v n xs)
    (B : Nat) (A : Option Addr) (m c : Nat) (news : List Value) (hr : Rd w B sz A m c news) (h1 : ∀ u ∈ news, u.oneCell' = true)
    (hbytes : (n + m) * by_ ≤ 140737488355328) (hbase : base ≤ w.heap.size) :
    ∃ v' w', (Builtin.append_ #[t, t] ty #[v, .slice A m c]).run P w = .ok v' w' ∧ w'.ownsRow base e sz v' (n + m) (xs ++ news) ∧ w.grownBy w' v.ownBlock ∧
      (v'.ownBlock = v.ownBlock ∨ v'.ownBlock = some w.heap.size) := by
  obtain ⟨i, hi, hz, hs, hb⟩ := info_parts T.inf
  have h63 : n + m ≤ maxLen := by
    have := Nat.le_mul_of_pos_right (n + m) T.bpos
    simp only [maxLen]; omega
  rcases A with _ | ad
  · have hm : m = 0 := by
      rcases Nat.eq_zero_or_pos m with h0 | h0
      · exact h0
      · obtain ⟨b, off, h, _⟩ := hr.at_ h0
        cases h
    subst hm
    have hn : news = [] := List.eq_nil_of_length_eq_zero (by simpa using hr.len)
    subst hn
    refine ⟨v, w, ?_, by simpa using hown, World.grownBy.refl w _, .inl rfl⟩
    rcases hown.2 with ⟨rfl, rfl⟩ | ⟨g, cap, cur, rfl, _, _, hnc, _⟩
    · simp [Builtin.append_, run_underlying T.ut, sizeOf, typeInfo, hi, Builtin.lenOf, Builtin.firstCells]
    · simp [Builtin.append_, run_underlying T.ut, sizeOf, typeInfo, hi, Builtin.lenOf, Builtin.firstCells, hnc, storeCells]
  · have hcells : ∀ j u, news[j]? = some u → w.cell? (ad.add j) = some u := by
      intro j u hu
      rcases Nat.eq_zero_or_pos m with h0 | h0
      · subst h0
        have hn : news = [] := List.eq_nil_of_length_eq_zero (by simpa using hr.len)
        subst hn
        simp at hu
      · obtain ⟨b, off, h, _, hc⟩ := hr.at_ h0
        injection h with h
        subst h
        rw [Addr.add_lit]
        exact hc j u hu
    obtain ⟨v', w', hrun, h2, h3, _, h5⟩ := run_append_own_at (P := P) w base t ty e i z sz by_ T.ut hi hz hs hb T.zs T.pos v n xs hown ad m c news hr.len hcells h1 h63 hbytes hbase
    exact ⟨v', w', hrun, h2, h3, h5⟩

theorem wp_app {t e : TypeId} {sz by_ : Nat} {z : Value} {o : Oper} {a : Act} {K : Act → World → Prop} {Q : Exit → Act → World → Prop} (T : STy P t e sz by_ z) (s x : Operand)
    (ho : o.op = .call { callee := .builtin .append, args := #[s, x], argTypes := #[t, t] }) (base : Nat)
    (v : Value) (n : Nat) (xs : List Value) (hs : a.eval s = v) (hown : w.ownsRow base e sz v n xs)
    (B : Nat) (A : Option Addr) (m c : Nat) (news : List Value) (hx : a.eval x = .slice A m c) (hr : Rd w B sz A m c news) (h1 : ∀ u ∈ news, u.oneCell' = true)
    (hbytes : (n + m) * by_ ≤ 140737488355328) (hbase : base ≤ w.heap.size)
    (h : ∀ v' w', w'.ownsRow base e sz v' (n + m) (xs ++ news) → w.grownBy w' v.ownBlock → (v'.ownBlock = v.ownBlock ∨ v'.ownBlock = some w.heap.size) → K (a.put o.dst v') w') : o.wp P a w K Q := by
  obtain ⟨v', w', hrun, h2, h3, h4⟩ := run_app (P := P) w T base o.type v n xs hown B A m c news hr h1 hbytes hbase
  unfold Oper.wp execOp
  simp only [ho, resolve, invoke, builtin, Sem.run_bind, Sem.run_pure, Result.andThen_ok, List.map_toArray, List.map_cons, List.map_nil, hs, hx, hrun]
  exact h v' w' h2 h3 h4

theorem wpList_app {t e : TypeId} {sz by_ : Nat} {z : Value} {ops : Array Oper} {rest : List Oper} {o : Oper} {a : Act} {Q : Exit → Act → World → Prop} (T : STy P t e sz by_ z) (hgd : o.guard = none) (s x : Operand)
    (ho : o.op = .call { callee := .builtin .append, args := #[s, x], argTypes := #[t, t] }) (base : Nat)
    (v : Value) (n : Nat) (xs : List Value) (hs : a.eval s = v) (hown : w.ownsRow base e sz v n xs)
    (B : Nat) (A : Option Addr) (m c : Nat) (news : List Value) (hx : a.eval x = .slice A m c) (hr : Rd w B sz A m c news) (h1 : ∀ u ∈ news, u.oneCell' = true)
    (hbytes : (n + m) * by_ ≤ 140737488355328) (hbase : base ≤ w.heap.size)
    (h : ∀ v' w', w'.ownsRow base e sz v' (n + m) (xs ++ news) → w.grownBy w' v.ownBlock → (v'.ownBlock = v.ownBlock ∨ v'.ownBlock = some w.heap.size) → wpList P ops Q rest (a.put o.dst v') w') :
    wpList P ops Q (o :: rest) a w :=
  wpList_plain hgd fun _ hK => wp_app w T s x ho base v n xs hs hown B A m c news hx hr h1 hbytes hbase fun v' w' h2 h3 h4 => hK _ _ (h v' w' h2 h3 h4)
end

/-- behind an append: what lies below the own row's base is as it was -/
theorem below_app {B base : Nat} {w0 w w' : World} {v : Value} {n : Nat} {xs : List Value} {e : TypeId} {sz : Nat} (hb : Below B w0 w) (hB : B ≤ base) (hown : w.ownsRow base e sz v n xs)
    (hg : w.grownBy w' v.ownBlock) (hz : B ≤ w.heap.size) : Below B w0 w' :=
  hb.grown hg hz fun k hk => Nat.le_trans hB (hown.lt k hk).1

theorem own_below {base : Nat} {w w' : World} {v : Value} {n : Nat} {xs : List Value} {e : TypeId} {sz : Nat} (h : w.ownsRow base e sz v n xs) (hb : Below w.heap.size w w') : w'.ownsRow base e sz v n xs :=
  h.kept (row := none) ⟨hb.os, hb.tape, hb.output, hb.size, fun k hk _ => hb.block k hk⟩ (by cases hv : v.ownBlock <;> simp)
theorem own_base {base base' : Nat} {w : World} {v : Value} {n : Nat} {xs : List Value} {e : TypeId} {sz : Nat} (h : w.ownsRow base e sz v n xs) (hb : base' ≤ base) : w.ownsRow base' e sz v n xs :=
  ⟨h.1, h.2.imp id fun ⟨g, cap, cur, hv, hg, r⟩ => ⟨g, cap, cur, hv, Nat.le_trans hb hg, r⟩⟩
theorem own_lit (w : World) {base : Nat} (e : TypeId) (sz n : Nat) (cs : Array Value) (hb : base ≤ w.heap.size) (hm : n ≤ maxLen) (hs : cs.size = n * sz) :
    (w.alloc (.cells cs e)).ownsRow base e sz (.slice (some ⟨w.heap.size, 0, none⟩) n n) n cs.toList :=
  World.ownsRow_lit w cs n hb hm hs

theorem below_of_drew {B : Nat} {w w' : World} (h : Below B w.drew w') : Below B w w' := (Below.refl B w).drew.trans h

/-- behind a call that leaves what was there -/
theorem below_call {B : Nat} {w0 w w' : World} (h : Below B w0 w) (hB : B ≤ w.heap.size) (hc : Below w.heap.size w w') : Below B w0 w' := h.trans (hc.mono hB)

/-- the call gives a row of its own that holds xs; what was there is as it was -/
def RetRow (w : World) (t : TypeId) (sz n : Nat) (xs : List Value) (e : Ending) (w' : World) : Prop :=
  ∃ v, e = .returned v ∧ w'.ownsRow w.heap.size t sz v n xs ∧ Below w.heap.size w w'
theorem Rd.none_ {w : World} {B sz n c : Nat} {xs : List Value} (h : Rd w B sz none n c xs) : n = 0 ∧ xs = [] := by
  rcases Nat.eq_zero_or_pos n with h0 | h0
  · subst h0; exact ⟨rfl, List.eq_nil_of_length_eq_zero (by simpa using h.len)⟩
  · obtain ⟨b, off, e, _⟩ := h.at_ h0; cases e

/-! ### Bytes -/
def byteV (b : UInt8) : Value := .int .u8 (b.toNat : Int)
def bytesV (l : List UInt8) : List Value := l.map byteV
theorem bytesV_length (l : List UInt8) : (bytesV l).length = l.length := by simp [bytesV]
theorem bytesV_append (a b : List UInt8) : bytesV (a ++ b) = bytesV a ++ bytesV b := by simp [bytesV]
theorem bytesV_one (l : List UInt8) : ∀ u ∈ bytesV l, u.oneCell' = true := by
  intro u hu
  obtain ⟨_, _, rfl⟩ := List.mem_map.1 hu
  rfl
theorem bytesV_get (l : List UInt8) (k : Nat) (hk : k < l.length) : (bytesV l)[k]? = some (byteV l[k]) := by simp [bytesV, hk]

theorem one_int (k : IntKind) (n : Int) : ∀ u ∈ #[Value.int k n].toList, u.oneCell' = true := by
  intro u hu
  have : u = .int k n := by simpa using hu
  subst this
  rfl

/-- 'string(b)' of a slice that reads the bytes l -/
theorem run_str {P : Program} (w : World) {src dst e : TypeId} {B n c : Nat} {A : Option Addr} {l : List UInt8} (hs : P.underlying src = some (.slice e)) (he : P.underlying e = some (.int .u8)) (hd : P.underlying dst = some .string)
    (h : Rd w B 1 A n c (bytesV l)) : (convert src dst (.slice A n c)).run P w = .ok (.string ⟨l.toArray⟩) w := by
  have hn : n = l.length := by have := h.len; simp [bytesV] at this; omega
  subst hn
  rcases Nat.eq_zero_or_pos l.length with h0 | h0
  · have hl : l = [] := List.eq_nil_of_length_eq_zero h0
    subst hl
    rcases A with _ | ad
    · rw [run_convert_bytes_string w src dst e _ _ c hs he hd]
      rfl
    · exact run_convert_bytes_back w src dst e ad c [] hs he hd (fun j hj => absurd hj (by simp))
  · obtain ⟨b, off, rfl, _, hc⟩ := h.at_ h0
    refine run_convert_bytes_back w src dst e _ c l hs he hd (fun j hj => ?_)
    rw [Addr.add_lit]
    exact hc j _ (bytesV_get l j hj)
end Go.Proofs.Ytlccpchlclpnaaa
