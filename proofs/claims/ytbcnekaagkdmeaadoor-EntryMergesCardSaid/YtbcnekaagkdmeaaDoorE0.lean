/- WHAT SERVES THE TABLES' STATEMENTS, part 0: Base, Ty, Sig, SigS, SigN, Sch, Abs, SchA, Val, Cel, Grow, Alive, GrowW, Var, VarW, VarG, Rdr, BoxN, Meta, Great. No statement of the seat is proved here. -/
import Derived.WalkKit
import Derived.WalkSpells
import Derived.WalkLawsBesides
import Derived.Deep.Draws
import Derived.Deep.AppendLies
import Derived.Maps.AppendAt
import Derived.BigQuiet
import Derived.Deep.QuietTactic
import Derived.Deep.RegionWith
import Derived.Handy
import Derived.Test.YtbcnekaagkdmeaaDoorProg
import Derived.Lib.DecodeN
import Derived.Lib.RuneCountTail
import Derived.Still
import Derived.StillTail
import Derived.Laws.ResultCell
import Derived.Deep.OwnRows
import Derived.Deep.CutRange
import Derived.Deep.RegionHeld3
import Init.Data.List.Lemmas
namespace Go.Proofs.YtbcnekaagkdmeaaDoor

section
open Go.RowKit

theorem hide {p : Prop} (h : p) : Hid p := h

/-! ### Slices that read a list of cells -/
structure Rd (w : World) (B sz : Nat) (A : Option Addr) (n c : Nat) (xs : List Value) : Prop where
  len : xs.length = n * sz
  le : n ≤ c
  cap : c ≤ maxLen
  at_ : 0 < n → ∃ b off, A = some ⟨b, off, none⟩ ∧ b < B ∧ ∀ j u, xs[j]? = some u → w.cell? ⟨b, off + j, none⟩ = some u

section
variable {w w' : World} {B B' sz n c : Nat} {A : Option Addr} {xs : List Value}

theorem Rd.keep (h : Rd w B sz A n c xs) (hk : ∀ p : Addr, p.block < B → w'.cell? p = w.cell? p) : Rd w' B sz A n c xs :=
  ⟨h.len, h.le, h.cap, fun hn => by
    obtain ⟨b, off, e, hb, hc⟩ := h.at_ hn
    exact ⟨b, off, e, hb, fun j u hu => (hk ⟨b, off + j, none⟩ hb).trans (hc j u hu)⟩⟩
theorem Rd.more (h : Rd w B sz A n c xs) (hB : B ≤ B') : Rd w B' sz A n c xs :=
  ⟨h.len, h.le, h.cap, fun hn => by
    obtain ⟨b, off, e, hb, hc⟩ := h.at_ hn
    exact ⟨b, off, e, Nat.lt_of_lt_of_le hb hB, hc⟩⟩
theorem Rd.below (h : Rd w B sz A n c xs) (hb : Below B w w') : Rd w' B sz A n c xs := h.keep fun _ hp => hb.cell hp
theorem Rd.below' (h : Rd w B sz A n c xs) (hb : Below B' w w') (hB : B ≤ B') : Rd w' B sz A n c xs := h.keep fun _ hp => hb.cell (Nat.lt_of_lt_of_le hp hB)
theorem Rd.alloc (h : Rd w B sz A n c xs) (hB : B ≤ w.heap.size) (o : Obj) : Rd (w.alloc o) B sz A n c xs := h.below ((Below.refl B w).alloc hB o)
theorem Rd.drew (h : Rd w B sz A n c xs) : Rd w.drew B sz A n c xs := h.keep fun _ _ => rfl
theorem Rd.cellAt (h : Rd w B sz A n c xs) {k : Nat} (hk : k < xs.length) : ∃ b off, A = some ⟨b, off, none⟩ ∧ b < B ∧ w.cell? ⟨b, off + k, none⟩ = some xs[k] := by
  have hn : 0 < n := by
    rcases Nat.eq_zero_or_pos n with h0 | h0
    · have := h.len; rw [h0] at this; omega
    · exact h0
  obtain ⟨b, off, e, hb, hc⟩ := h.at_ hn
  exact ⟨b, off, e, hb, hc k _ (List.getElem?_eq_getElem hk)⟩
theorem Rd.nil (w : World) (B sz : Nat) : Rd w B sz none 0 0 [] := ⟨by simp, Nat.le_refl _, Nat.zero_le _, fun h => absurd h (by omega)⟩
theorem Rd.of_own {base : Nat} {e : TypeId} {v : Value} (h : w.ownsRow base e sz v n xs) : ∃ A c, v = .slice A n c ∧ Rd w w.heap.size sz A n c xs := by
  rcases h.2 with ⟨rfl, rfl⟩ | ⟨g, cap, cur, rfl, hb, hg, hnc, hm, hcur, htake⟩
  · have hx : xs = [] := List.eq_nil_of_length_eq_zero (by simpa using h.1)
    subst hx
    exact ⟨none, 0, rfl, Rd.nil _ _ _⟩
  · refine ⟨some ⟨g, 0, none⟩, cap, rfl, h.1, hnc, hm, fun _ => ⟨g, 0, rfl, (Array.getElem?_eq_some_iff.1 hg).1, fun j u hu => ?_⟩⟩
    have := World.ownsRow.cells (w := w) h (g := g) rfl j u hu
    simpa [Addr.add_lit] using this
/-- a literal's block -/
theorem Rd.lit (w : World) (e : TypeId) (cs : Array Value) (hl : cs.size = n * sz) (hm : n ≤ maxLen) :
    Rd (w.alloc (.cells cs e)) (w.heap.size + 1) sz (some ⟨w.heap.size, 0, none⟩) n n cs.toList :=
  ⟨by simpa using hl, Nat.le_refl _, hm, fun _ => ⟨w.heap.size, 0, rfl, by omega, fun j u hu => by
    rw [cell_of_row _ _ _ cs e (0, 0) (heap_alloc_new w _)]
    simpa using hu⟩⟩
/-- a beginning 's[:hi]' -/
theorem Rd.pre (h : Rd w B sz A n c xs) {hi : Nat} (h2 : hi ≤ n) : Rd w B sz A hi c (xs.take (hi * sz)) :=
  ⟨by rw [List.length_take, h.len]; exact Nat.min_eq_left (Nat.mul_le_mul_right _ h2), Nat.le_trans h2 h.le, h.cap, fun hn => by
    obtain ⟨b, off, e, hb, hc⟩ := h.at_ (by omega)
    refine ⟨b, off, e, hb, fun j u hu => hc j u ?_⟩
    have hj : j < hi * sz := by
      have := (List.getElem?_eq_some_iff.1 hu).1
      simp at this
      omega
    rwa [List.getElem?_take, if_pos hj] at hu⟩
/-- a cut 's[lo:hi]' -/
theorem Rd.cut (h : Rd w B sz A n c xs) {lo hi : Nat} (h1 : lo ≤ hi) (h2 : hi ≤ n) :
    Rd w B sz (if c = lo then A else A.map (·.add (lo * sz))) (hi - lo) (c - lo) ((xs.drop (lo * sz)).take ((hi - lo) * sz)) := by
  refine ⟨?_, by have := h.le; omega, by have := h.cap; omega, fun hn => ?_⟩
  · rw [List.length_take, List.length_drop, h.len, ← Nat.sub_mul]
    exact Nat.min_eq_left (Nat.mul_le_mul_right _ (by omega))
  · obtain ⟨b, off, rfl, hb, hc⟩ := h.at_ (by omega)
    rw [if_neg (by have := h.le; omega)]
    refine ⟨b, off + lo * sz, by simp [Addr.add_lit], hb, fun j u hu => ?_⟩
    rw [Nat.add_assoc]
    refine hc _ u ?_
    have hj : j < (hi - lo) * sz := by
      have := (List.getElem?_eq_some_iff.1 hu).1
      simp at this
      omega
    rw [List.getElem?_take, if_pos hj, List.getElem?_drop] at hu
    exact hu
end

/-! ### Types of slices -/
structure STy (P : Program) (t e : TypeId) (sz by_ : Nat) (z : Value) : Prop where
  ut : P.underlying t = some (.slice e)
  inf : (P.info? e).map (fun i => (i.zero, i.size, i.bytes)) = some (some z, sz, by_)
  zs : z.cells.size = sz
  pos : 0 < sz
  bpos : 0 < by_

/-! ### cuts, as equations for the walk -/
section
variable {P : Program} {t e : TypeId} {sz by_ : Nat} {z : Value}
theorem run_cut_hi (T : STy P t e sz by_ z) (A : Option Addr) (n c : Nat) (k : IntKind) (h : Int) (hi : Nat) (he : h = (hi : Int)) (h2 : hi ≤ c) (w : World) :
    (Instr.slice t (.slice A n c) none (some (.int k h)) none).run P w = .ok (.slice A hi c) w := by
  obtain ⟨i, hi', hz, hs, hb⟩ := info_parts T.inf
  subst he
  have e0 : A.map (fun x => x.add 0) = A := by cases A <;> simp [Addr.add]
  simp [Instr.slice, run_underlying T.ut, Instr.sliceBounds, run_sliceBound, sizeOf, typeInfo, hi', h2, e0]
theorem run_cut_lo (T : STy P t e sz by_ z) (A : Option Addr) (n c : Nat) (k : IntKind) (l : Int) (lo : Nat) (he : l = (lo : Int)) (h1 : lo ≤ n) (_h2 : n ≤ c) (w : World) :
    (Instr.slice t (.slice A n c) (some (.int k l)) none none).run P w = .ok (.slice (if c = lo then A else A.map (·.add (lo * sz))) (n - lo) (c - lo)) w := by
  obtain ⟨i, hi', hz, hs, hb⟩ := info_parts T.inf
  subst he
  simp [Instr.slice, run_underlying T.ut, Instr.sliceBounds, run_sliceBound, sizeOf, typeInfo, hi', h1, hs]
theorem run_cut_both (T : STy P t e sz by_ z) (A : Option Addr) (n c : Nat) (k k' : IntKind) (l h : Int) (lo hi : Nat) (he : l = (lo : Int)) (he' : h = (hi : Int)) (h1 : lo ≤ hi) (h2 : hi ≤ c) (w : World) :
    (Instr.slice t (.slice A n c) (some (.int k l)) (some (.int k' h)) none).run P w = .ok (.slice (if c = lo then A else A.map (·.add (lo * sz))) (hi - lo) (c - lo)) w := by
  obtain ⟨i, hi', hz, hs, hb⟩ := info_parts T.inf
  subst he
  subst he'
  simp [Instr.slice, run_underlying T.ut, Instr.sliceBounds, run_sliceBound, sizeOf, typeInfo, hi', h1, h2, hs]
theorem cut_hi (T : STy P t e sz by_ z) (A : Option Addr) (n c : Nat) (k : IntKind) (h : Int) (hi : Nat) (he : h = (hi : Int)) (h2 : hi ≤ c) (w : World) :
    (Instr.sliceAt t (.slice A n c) none (some (.int k h)) none).run P w = .ok (.slice A hi c) w := by
  simp only [Instr.sliceAt, Sem.run_bind, run_underlying T.ut, Result.andThen]
  exact run_cut_hi T A n c k h hi he h2 w
theorem cut_lo (T : STy P t e sz by_ z) (A : Option Addr) (n c : Nat) (k : IntKind) (l : Int) (lo : Nat) (he : l = (lo : Int)) (h1 : lo ≤ n) (h2 : n ≤ c) (w : World) :
    (Instr.sliceAt t (.slice A n c) (some (.int k l)) none none).run P w = .ok (.slice (if c = lo then A else A.map (·.add (lo * sz))) (n - lo) (c - lo)) w := by
  simp only [Instr.sliceAt, Sem.run_bind, run_underlying T.ut, Result.andThen]
  exact run_cut_lo T A n c k l lo he h1 h2 w
theorem cut_both (T : STy P t e sz by_ z) (A : Option Addr) (n c : Nat) (k k' : IntKind) (l h : Int) (lo hi : Nat) (he : l = (lo : Int)) (he' : h = (hi : Int)) (h1 : lo ≤ hi) (h2 : hi ≤ c) (w : World) :
    (Instr.sliceAt t (.slice A n c) (some (.int k l)) (some (.int k' h)) none).run P w = .ok (.slice (if c = lo then A else A.map (·.add (lo * sz))) (hi - lo) (c - lo)) w := by
  simp only [Instr.sliceAt, Sem.run_bind, run_underlying T.ut, Result.andThen]
  exact run_cut_both T A n c k k' l h lo hi he he' h1 h2 w
end

/-! ### append onto a row of the call's own -/
section
variable {P : Program} (w : World)

theorem run_app {t e : TypeId} {sz by_ : Nat} {z : Value} (T : STy P t e sz by_ z) (base : Nat) (ty : TypeId)
    (v : Value) (n : Nat) (xs : List Value) (hown : w.ownsRow base e sz v n xs)
    (B : Nat) (A : Option Addr) (m c : Nat) (news : List Value) (hr : Rd w B sz A m c news) (h1 : ∀ u ∈ news, u.oneCell' = true)
    (hbytes : (n + m) * by_ ≤ 140737488355328) (hbase : base ≤ w.heap.size) :
    ∃ v' w', (Builtin.append_ #[t, t] ty #[v, .slice A m c]).run P w = .ok v' w' ∧ w'.ownsRow base e sz v' (n + m) (xs ++ news) ∧ w.grownBy w' v.ownBlock ∧
      (v'.ownBlock = v.ownBlock ∨ v'.ownBlock = some w.heap.size) := by
  obtain ⟨i, hi, hz, hs, hb⟩ := info_parts T.inf
  have h63 : n + m ≤ maxLen := by
    have := Nat.le_mul_of_pos_right (n + m) T.bpos
    simp only [maxLen]; omega
  rcases A with _ | ad
  · have hm : m = 0 := by
      rcases Nat.eq_zero_or_pos m with h0 | h0
      · exact h0
      · obtain ⟨b, off, h, _⟩ := hr.at_ h0
        cases h
    subst hm
    have hn : news = [] := List.eq_nil_of_length_eq_zero (by simpa using hr.len)
    subst hn
    refine ⟨v, w, ?_, by simpa using hown, World.grownBy.refl w _, .inl rfl⟩
    rcases hown.2 with ⟨rfl, rfl⟩ | ⟨g, cap, cur, rfl, _, _, hnc, _⟩
    · simp [Builtin.append_, run_underlying T.ut, sizeOf, typeInfo, hi, Builtin.lenOf, Builtin.firstCells]
    · simp [Builtin.append_, run_underlying T.ut, sizeOf, typeInfo, hi, Builtin.lenOf, Builtin.firstCells, hnc, storeCells]
  · have hcells : ∀ j u, news[j]? = some u → w.cell? (ad.add j) = some u := by
      intro j u hu
      rcases Nat.eq_zero_or_pos m with h0 | h0
      · subst h0
        have hn : news = [] := List.eq_nil_of_length_eq_zero (by simpa using hr.len)
        subst hn
        simp at hu
      · obtain ⟨b, off, h, _, hc⟩ := hr.at_ h0
        injection h with h
        subst h
        rw [Addr.add_lit]
        exact hc j u hu
    obtain ⟨v', w', hrun, h2, h3, _, h5⟩ := run_append_own_at (P := P) w base t ty e i z sz by_ T.ut hi hz hs hb T.zs T.pos v n xs hown ad m c news hr.len hcells h1 h63 hbytes hbase
    exact ⟨v', w', hrun, h2, h3, h5⟩

theorem wp_app {t e : TypeId} {sz by_ : Nat} {z : Value} {o : Oper} {a : Act} {K : Act → World → Prop} {Q : Exit → Act → World → Prop} (T : STy P t e sz by_ z) (s x : Operand)
    (ho : o.op = .call { callee := .builtin .append, args := #[s, x], argTypes := #[t, t] }) (base : Nat)
    (v : Value) (n : Nat) (xs : List Value) (hs : a.eval s = v) (hown : w.ownsRow base e sz v n xs)
    (B : Nat) (A : Option Addr) (m c : Nat) (news : List Value) (hx : a.eval x = .slice A m c) (hr : Rd w B sz A m c news) (h1 : ∀ u ∈ news, u.oneCell' = true)
    (hbytes : (n + m) * by_ ≤ 140737488355328) (hbase : base ≤ w.heap.size)
    (h : ∀ v' w', w'.ownsRow base e sz v' (n + m) (xs ++ news) → w.grownBy w' v.ownBlock → (v'.ownBlock = v.ownBlock ∨ v'.ownBlock = some w.heap.size) → K (a.put o.dst v') w') : o.wp P a w K Q := by
  obtain ⟨v', w', hrun, h2, h3, h4⟩ := run_app (P := P) w T base o.type v n xs hown B A m c news hr h1 hbytes hbase
  unfold Oper.wp execOp
  simp only [ho, resolve, invoke, builtin, Sem.run_bind, Sem.run_pure, Result.andThen_ok, List.map_toArray, List.map_cons, List.map_nil, hs, hx, hrun]
  exact h v' w' h2 h3 h4

theorem wpList_app {t e : TypeId} {sz by_ : Nat} {z : Value} {ops : Array Oper} {rest : List Oper} {o : Oper} {a : Act} {Q : Exit → Act → World → Prop} (T : STy P t e sz by_ z) (hgd : o.guard = none) (s x : Operand)
    (ho : o.op = .call { callee := .builtin .append, args := #[s, x], argTypes := #[t, t] }) (base : Nat)
    (v : Value) (n : Nat) (xs : List Value) (hs : a.eval s = v) (hown : w.ownsRow base e sz v n xs)
    (B : Nat) (A : Option Addr) (m c : Nat) (news : List Value) (hx : a.eval x = .slice A m c) (hr : Rd w B sz A m c news) (h1 : ∀ u ∈ news, u.oneCell' = true)
    (hbytes : (n + m) * by_ ≤ 140737488355328) (hbase : base ≤ w.heap.size)
    (h : ∀ v' w', w'.ownsRow base e sz v' (n + m) (xs ++ news) → w.grownBy w' v.ownBlock → (v'.ownBlock = v.ownBlock ∨ v'.ownBlock = some w.heap.size) → wpList P ops Q rest (a.put o.dst v') w') :
    wpList P ops Q (o :: rest) a w :=
  wpList_plain hgd fun _ hK => wp_app w T s x ho base v n xs hs hown B A m c news hx hr h1 hbytes hbase fun v' w' h2 h3 h4 => hK _ _ (h v' w' h2 h3 h4)
end

/-- behind an append: what lies below the own row's base is as it was -/
theorem below_app {B base : Nat} {w0 w w' : World} {v : Value} {n : Nat} {xs : List Value} {e : TypeId} {sz : Nat} (hb : Below B w0 w) (hB : B ≤ base) (hown : w.ownsRow base e sz v n xs)
    (hg : w.grownBy w' v.ownBlock) (hz : B ≤ w.heap.size) : Below B w0 w' :=
  hb.grown hg hz fun k hk => Nat.le_trans hB (hown.lt k hk).1

theorem own_below {base : Nat} {w w' : World} {v : Value} {n : Nat} {xs : List Value} {e : TypeId} {sz : Nat} (h : w.ownsRow base e sz v n xs) (hb : Below w.heap.size w w') : w'.ownsRow base e sz v n xs :=
  h.kept (row := none) ⟨hb.os, hb.tape, hb.output, hb.size, fun k hk _ => hb.block k hk⟩ (by cases hv : v.ownBlock <;> simp)
theorem own_base {base base' : Nat} {w : World} {v : Value} {n : Nat} {xs : List Value} {e : TypeId} {sz : Nat} (h : w.ownsRow base e sz v n xs) (hb : base' ≤ base) : w.ownsRow base' e sz v n xs :=
  ⟨h.1, h.2.imp id fun ⟨g, cap, cur, hv, hg, r⟩ => ⟨g, cap, cur, hv, Nat.le_trans hb hg, r⟩⟩
theorem own_lit (w : World) {base : Nat} (e : TypeId) (sz n : Nat) (cs : Array Value) (hb : base ≤ w.heap.size) (hm : n ≤ maxLen) (hs : cs.size = n * sz) :
    (w.alloc (.cells cs e)).ownsRow base e sz (.slice (some ⟨w.heap.size, 0, none⟩) n n) n cs.toList :=
  World.ownsRow_lit w cs n hb hm hs

theorem below_of_drew {B : Nat} {w w' : World} (h : Below B w.drew w') : Below B w w' := (Below.refl B w).drew.trans h

/-- behind a call that leaves what was there -/
theorem below_call {B : Nat} {w0 w w' : World} (h : Below B w0 w) (hB : B ≤ w.heap.size) (hc : Below w.heap.size w w') : Below B w0 w' := h.trans (hc.mono hB)

/-- the call gives a row of its own that holds xs; what was there is as it was -/
def RetRow (w : World) (t : TypeId) (sz n : Nat) (xs : List Value) (e : Ending) (w' : World) : Prop :=
  ∃ v, e = .returned v ∧ w'.ownsRow w.heap.size t sz v n xs ∧ Below w.heap.size w w'
theorem Rd.none_ {w : World} {B sz n c : Nat} {xs : List Value} (h : Rd w B sz none n c xs) : n = 0 ∧ xs = [] := by
  rcases Nat.eq_zero_or_pos n with h0 | h0
  · subst h0; exact ⟨rfl, List.eq_nil_of_length_eq_zero (by simpa using h.len)⟩
  · obtain ⟨b, off, e, _⟩ := h.at_ h0; cases e

/-! ### Bytes -/
def byteV (b : UInt8) : Value := .int .u8 (b.toNat : Int)
def bytesV (l : List UInt8) : List Value := l.map byteV
theorem bytesV_length (l : List UInt8) : (bytesV l).length = l.length := by simp [bytesV]
theorem bytesV_append (a b : List UInt8) : bytesV (a ++ b) = bytesV a ++ bytesV b := by simp [bytesV]
theorem bytesV_one (l : List UInt8) : ∀ u ∈ bytesV l, u.oneCell' = true := by
  intro u hu
  obtain ⟨_, _, rfl⟩ := List.mem_map.1 hu
  rfl
theorem bytesV_get (l : List UInt8) (k : Nat) (hk : k < l.length) : (bytesV l)[k]? = some (byteV l[k]) := by simp [bytesV, hk]

theorem one_int (k : IntKind) (n : Int) : ∀ u ∈ #[Value.int k n].toList, u.oneCell' = true := by
  intro u hu
  have : u = .int k n := by simpa using hu
  subst this
  rfl

/-- 'string(b)' of a slice that reads the bytes l -/
theorem run_str {P : Program} (w : World) {src dst e : TypeId} {B n c : Nat} {A : Option Addr} {l : List UInt8} (hs : P.underlying src = some (.slice e)) (he : P.underlying e = some (.int .u8)) (hd : P.underlying dst = some .string)
    (h : Rd w B 1 A n c (bytesV l)) : (convert src dst (.slice A n c)).run P w = .ok (.string ⟨l.toArray⟩) w := by
  have hn : n = l.length := by have := h.len; simp [bytesV] at this; omega
  subst hn
  rcases Nat.eq_zero_or_pos l.length with h0 | h0
  · have hl : l = [] := List.eq_nil_of_length_eq_zero h0
    subst hl
    rcases A with _ | ad
    · rw [run_convert_bytes_string w src dst e _ _ c hs he hd]
      rfl
    · exact run_convert_bytes_back w src dst e ad c [] hs he hd (fun j hj => absurd hj (by simp))
  · obtain ⟨b, off, rfl, _, hc⟩ := h.at_ h0
    refine run_convert_bytes_back w src dst e _ c l hs he hd (fun j hj => ?_)
    rw [Addr.add_lit]
    exact hc j _ (bytesV_get l j hj)
end

section
open Go.RowKit

theorem tyBytes : STy Tryd.prog 25 5 1 1 (.int .u8 0) := ⟨Tryd.underlying25, by kernel_rfl, rfl, by decide, by decide⟩

/-- the call gives the bytes l in a row of its own; what was there is as it was -/
def RetBytes (w : World) (l : List UInt8) (e : Ending) (w' : World) : Prop :=
  ∃ v, e = .returned v ∧ w'.ownsRow w.heap.size 5 1 v l.length (bytesV l) ∧ Below w.heap.size w w'


/-- the call gives v; what was there is as it was -/
def RetVal (w : World) (v : Value) (e : Ending) (w' : World) : Prop := e = .returned v ∧ Below w.heap.size w w'
end

section
open Go.Lib

def sgn (s : ByteArray) (p : Nat) : Nat := (Utf8.decode s p).1
def wid (s : ByteArray) (p : Nat) : Nat := (Utf8.decode s p).2
/-- a sign that belongs to bytes that are one's -/
def cleanAt (s : ByteArray) (p : Nat) : Bool := !(decide (sgn s p = 65533) && decide (wid s p = 1))
/-- a sign that may stand in a name at place p -/
def fairAt (s : ByteArray) (p : Nat) : Bool := decide (97 ≤ sgn s p ∧ sgn s p ≤ 122 ∨ sgn s p = 95 ∨ 127 < sgn s p ∨ 48 ≤ sgn s p ∧ sgn s p ≤ 57 ∧ 0 < p)
/-- so at each place at which a sign begins -/
def allFrom (s : ByteArray) (q : Nat → Bool) : Nat → Nat → Bool
  | 0, _ => true
  | b + 1, p => if p < s.size then q p && allFrom s q b (p + wid s p) else true
theorem allFrom_end (s : ByteArray) (q : Nat → Bool) (b p : Nat) (h : ¬ p < s.size) : allFrom s q b p = true := by
  cases b with
  | zero => rfl
  | succ b => simp [allFrom, h]
theorem allFrom_no (s : ByteArray) (q : Nat → Bool) (b p : Nat) (h : p < s.size) (hb : s.size ≤ p + b) (hq : q p = false) : allFrom s q b p = false := by
  cases b with
  | zero => omega
  | succ b => simp [allFrom, h, hq]
def isClean (s : ByteArray) : Bool := allFrom s (cleanAt s) s.size 0
def isFair (s : ByteArray) : Bool := allFrom s (fairAt s) s.size 0
/-- may a field's name be? -/
def named (s : ByteArray) : Bool := decide (1 ≤ s.size) && decide (s.size ≤ 16) && isClean s && isFair s

/-! ### one sign, by its bytes -/
theorem decodeN_low (n b0 b1 b2 b3 : Nat) (h : b0 < 128) : decodeN n b0 b1 b2 b3 = (b0, 1) := by unfold decodeN; rw [if_pos h]
/-- the number behind j more bytes -/
def val (b : Nat → Nat) (n0 : Nat) : Nat → Nat
  | 0 => n0
  | j + 1 => val b n0 j * 64 + b (j + 1) - 128
section
open Go.Lib
variable {k least base n : Nat} {b : Nat → Nat}
end
end

section
open Go.RowKit

theorem tup_eq (t : ByteArray) (v k : Nat) (c : Bool) (h : Utf8.decode t 0 = (v, k)) (hc : c = !(decide (v = 65533) && decide (k = 1))) :
    (Value.tuple #[.int .i64 (sgn t 0 : Int), .int .i64 (wid t 0 : Int), .bool (cleanAt t 0)]) = .tuple #[.int .i64 (v : Int), .int .i64 (k : Int), .bool c] := by
  unfold cleanAt sgn wid
  rw [h, hc]
def SignEnd (t : ByteArray) (e : Ending) : Prop := e = .returned (.tuple #[.int .i64 (sgn t 0 : Int), .int .i64 (wid t 0 : Int), .bool (cleanAt t 0)])
theorem SignEnd.of (t : ByteArray) (v k : Nat) (c : Bool) (h : Utf8.decode t 0 = (v, k)) (hc : c = !(decide (v = 65533) && decide (k = 1))) : SignEnd t (.returned (.tuple #[.int .i64 (v : Int), .int .i64 (k : Int), .bool c])) := by
  unfold SignEnd; rw [tup_eq t v k c h hc]
theorem SignEnd.bad (t : ByteArray) (h : Utf8.decode t 0 = (65533, 1)) : SignEnd t (.returned (.tuple #[.int .i64 65533, .int .i64 1, .bool false])) := SignEnd.of t 65533 1 false h rfl
end

section
open Go.RowKit

/-! ### two rows of the call's own lie apart -/
def Apart (a b : Value) : Prop := ∀ k, a.ownBlock = some k → b.ownBlock ≠ some k
theorem Apart.symm {a b : Value} (h : Apart a b) : Apart b a := fun k h1 h2 => h k h2 h1
theorem Apart.kept {w w' : World} {a b : Value} {base : Nat} {e : TypeId} {sz n : Nat} {xs : List Value} (h : Apart a b) (hb : w.ownsRow base e sz b n xs) (hg : w.grownBy w' a.ownBlock) : w'.ownsRow base e sz b n xs :=
  hb.kept hg (by
    cases hv : b.ownBlock with
    | none => exact .inl rfl
    | some k => exact .inr fun h2 => h k h2.symm hv)
end

section
open Go.RowKit

structure Fd where
  id : UInt32
  name : ByteArray
  kind : UInt8
  need : Bool
instance : Inhabited Fd := ⟨⟨0, ByteArray.empty, 0, false⟩⟩
/-- a field's cells -/
def fdV (f : Fd) : List Value := [.int .u32 (f.id.toNat : Int), .string f.name, .int .u8 (f.kind.toNat : Int), .bool f.need]
def fdsV (l : List Fd) : List Value := l.flatMap fdV
theorem fdV_length (f : Fd) : (fdV f).length = 4 := rfl
theorem fdsV_cons (f : Fd) (l : List Fd) : fdsV (f :: l) = fdV f ++ fdsV l := rfl
theorem fdsV_length (l : List Fd) : (fdsV l).length = l.length * 4 := by
  induction l with
  | nil => rfl
  | cons f l ih => rw [fdsV_cons, List.length_append, ih, fdV_length, List.length_cons]; omega
theorem fdsV_get (l : List Fd) (k j : Nat) (hk : k < l.length) (hj : j < 4) : (fdsV l)[k * 4 + j]? = (fdV l[k])[j]? := by
  induction l generalizing k with
  | nil => simp at hk
  | cons f l ih =>
    rw [fdsV_cons]
    cases k with
    | zero => rw [List.getElem?_append_left (by rw [fdV_length]; omega)]; simp
    | succ k =>
      rw [List.getElem?_append_right (by rw [fdV_length]; omega), fdV_length, show (k + 1) * 4 + j - 4 = k * 4 + j by omega]
      rw [ih k (by simpa using hk)]
      simp
/-- has one of them this name? -/
def hasName (l : List Fd) (s : ByteArray) : Bool := l.any fun f => f.name.toList == s.toList
/-- the Id ahead of field i (0: none) -/
def wasId (l : List Fd) (i : Nat) : Nat := if i = 0 then 0 else (l.getD (i - 1) default).id.toNat
/-- the error of field i (0: none) -/
def errAt (l : List Fd) (i : Nat) : Nat :=
  let f := l.getD i default
  if f.id.toNat ≤ wasId l i then 81
  else if (!named f.name || hasName (l.take i) f.name) = true then 80
  else if (decide (f.kind.toNat < 1) || decide (3 < f.kind.toNat)) = true then 10
  else if ((f.need != decide (i = 0)) || (decide (i = 0) && decide (f.kind.toNat = 2))) = true then 82
  else 0
/-- the first one's -/
def errFrom (l : List Fd) : Nat → Nat → Nat
  | 0, _ => 0
  | b + 1, i => if errAt l i = 0 then errFrom l b (i + 1) else errAt l i
theorem errFrom_no (l : List Fd) (b i : Nat) (h : errAt l i = 0) : errFrom l (b + 1) i = errFrom l b (i + 1) := by simp [errFrom, h]
theorem errFrom_yes (l : List Fd) (b i : Nat) (h : errAt l i ≠ 0) : errFrom l (b + 1) i = errAt l i := by simp [errFrom, h]
/-- which schemas may be -/
def check (id : UInt32) (l : List Fd) : Nat := if id.toNat < 1 ∨ l.length < 1 ∨ 8 < l.length then 1 else errFrom l l.length 0
/-- a row of fields: field k's four cells -/
theorem Rd.fd {w : World} {B n c : Nat} {A : Option Addr} {l : List Fd} (h : Rd w B 4 A n c (fdsV l)) {k : Nat} (hk : k < l.length) :
    ∃ b off, A = some ⟨b, off, none⟩ ∧ b < B ∧ w.cell? ⟨b, off + k * 4, none⟩ = some (.int .u32 ((l.getD k default).id.toNat : Int)) ∧ w.cell? ⟨b, off + k * 4 + 1, none⟩ = some (.string (l.getD k default).name) ∧
      w.cell? ⟨b, off + k * 4 + 2, none⟩ = some (.int .u8 ((l.getD k default).kind.toNat : Int)) ∧ w.cell? ⟨b, off + k * 4 + 3, none⟩ = some (.bool (l.getD k default).need) := by
  have hn : 0 < n := by
    have := h.len
    rw [fdsV_length] at this
    omega
  obtain ⟨b, off, e, hb, hc⟩ := h.at_ hn
  have hd : l.getD k default = l[k] := by simp [List.getD, hk]
  have g : ∀ j, j < 4 → (fdsV l)[k * 4 + j]? = (fdV (l.getD k default))[j]? := fun j hj => by rw [hd]; exact fdsV_get l k j hk hj
  exact ⟨b, off, e, hb, hc (k * 4 + 0) _ (g 0 (by omega)), hc (k * 4 + 1) _ (g 1 (by omega)), hc (k * 4 + 2) _ (g 2 (by omega)), hc (k * 4 + 3) _ (g 3 (by omega))⟩
theorem Rd.lenF {w : World} {B n c : Nat} {A : Option Addr} {l : List Fd} (h : Rd w B 4 A n c (fdsV l)) : n = l.length := by
  have := h.len
  rw [fdsV_length] at this
  omega
section
variable {l : List Fd} {k : Nat} {f : Fd} (hf : l.getD k default = f)
include hf
theorem errAt_81 (h : f.id.toNat ≤ wasId l k) : errAt l k = 81 := by unfold errAt; rw [hf]; simp only [h, if_true]
theorem errAt_80 (h : ¬ f.id.toNat ≤ wasId l k) (h2 : (!named f.name || hasName (l.take k) f.name) = true) : errAt l k = 80 := by unfold errAt; rw [hf]; simp only [h, if_false, h2, if_true]
end
/-! ### a schema with a field more -/
def lastId (l : List Fd) : Nat := (l.getD (l.length - 1) default).id.toNat
def addErr (id : UInt32) (l : List Fd) (name : ByteArray) (k : Nat) : Nat :=
  if check id l ≠ 0 then check id l
  else if l.length = 8 ∨ lastId l = 4294967295 ∨ id.toNat = 4294967295 then 4
  else if (!named name || hasName l name) = true then 80
  else if k < 1 ∨ 3 < k then 10 else 0
def addId (id : UInt32) (l : List Fd) (name : ByteArray) (k : Nat) : UInt32 := if addErr id l name k = 0 then UInt32.ofNat (id.toNat + 1) else 0
def newFd (l : List Fd) (name : ByteArray) (k : Nat) : Fd := ⟨UInt32.ofNat (lastId l + 1), name, UInt8.ofNat k, false⟩
def addFds (id : UInt32) (l : List Fd) (name : ByteArray) (k : Nat) : List Fd := if addErr id l name k = 0 then l ++ [newFd l name k] else []
theorem check_len {id : UInt32} {l : List Fd} (h : check id l = 0) : 1 ≤ id.toNat ∧ 1 ≤ l.length ∧ l.length ≤ 8 := by
  unfold check at h
  split at h
  · omega
  · omega
section
variable {id : UInt32} {l : List Fd} {name : ByteArray} {k : Nat}
end
/-- a schema that reads so -/
def SchR (w : World) (v : Value) (id : UInt32) (l : List Fd) : Prop := ∃ A c, v = .agg #[.int .u32 (id.toNat : Int), .slice A l.length c] ∧ Rd w w.heap.size 4 A l.length c (fdsV l)
theorem SchR.none (w : World) : SchR w (.agg #[.int .u32 0, .slice none 0 0]) 0 [] := ⟨Option.none, 0, rfl, Rd.nil _ _ _⟩
theorem SchR.below {w w' : World} {v : Value} {id : UInt32} {l : List Fd} (h : SchR w v id l) (hb : Below w.heap.size w w') : SchR w' v id l := by
  obtain ⟨A, c, e, hr⟩ := h
  exact ⟨A, c, e, (hr.below hb).more hb.size⟩
end

section
open Go.RowKit

/-- what is known of a temporary: its value, or a word on it -/
inductive Slot where
  | is (v : Value)
  | has (p : Value → World → Prop)

def Slot.holds : Slot → Value → World → Prop
  | .is v, u, _ => u = v
  | .has p, u, w => p u w
@[go_sem] def Slot.lit : Slot → Value
  | .is v => v
  | .has _ => undef
def Slot.exact : Slot → Bool
  | .is _ => true
  | .has _ => false
@[go_sem] def lits (ss : List Slot) : Array Value := (ss.map Slot.lit).toArray
def slotAt (ss : List Slot) (t : Nat) : Slot := ss[t]?.getD (.is undef)
def putS (ss : List Slot) (d : Option Tmp) (s : Slot) : List Slot :=
  match d with
  | some d => ss.set d s
  | none => ss

theorem putS_length (ss : List Slot) (d : Option Tmp) (s : Slot) : (putS ss d s).length = ss.length := by cases d <;> simp [putS]
theorem slotAt_putS_ne {ss : List Slot} {d : Option Tmp} {s : Slot} {t : Nat} (h : d ≠ some t) : slotAt (putS ss d s) t = slotAt ss t := by
  cases d with
  | none => rfl
  | some d =>
    have : d ≠ t := fun e => h (by rw [e])
    simp [slotAt, putS, List.getElem?_set_ne this]
theorem slotAt_putS_eq {ss : List Slot} {s : Slot} {t : Nat} (h : t < ss.length) : slotAt (putS ss (some t) s) t = s := by
  simp [slotAt, putS, h]
theorem putS_comm (ss : List Slot) {x y : Option Tmp} (s u : Slot) (h : ∀ d, x = some d → y ≠ some d) : putS (putS ss x s) y u = putS (putS ss y u) x s := by
  cases x with
  | none => rfl
  | some d =>
    cases y with
    | none => rfl
    | some e =>
      have hne : d ≠ e := fun he => h d rfl (he ▸ rfl)
      simp only [putS]
      exact List.set_comm _ _ hne

/-- how a world may grow: reflexive, transitive -/
structure Grow (E : World → World → Prop) : Prop where
  refl : ∀ w, E w w
  trans : ∀ {a b c}, E a b → E b c → E a c

def Slot.mono (E : World → World → Prop) (s : Slot) : Prop := ∀ u w w', E w w' → s.holds u w → s.holds u w'
theorem mono_is {E : World → World → Prop} (v : Value) : (Slot.is v).mono E := fun _ _ _ _ h => h

def growAt (P : Program) (E : World → World → Prop) (s : Slot) (w : World) : Result Next → Prop
  | .ok (.value v) w' => E w w' ∧ s.holds v w'
  | .ok .skip w' => E w w' ∧ s.holds undef w'
  | .ok (.enter f args) w' => E w w' ∧ Calls P f args w' (fun e w'' => ∃ v, e = .returned v ∧ E w' w'' ∧ s.holds v w'')
  | _ => False

section
variable {P : Program} {ops : Array Oper} {md : Region.Mode} {E : World → World → Prop} {w0 : World}

/-- operation o gives s, in whatever frame and world what is known of the temporaries that it looks at -/
def Good (P : Program) (ops : Array Oper) (E : World → World → Prop) (w0 : World) (ss : List Slot) (o : Oper) (s : Slot) : Prop :=
  s.mono E ∧ ∀ (a : Act) (w : World), E w0 w → a.tmps.size = ss.length → (∀ t ∈ o.looksAt ops, (slotAt ss t).holds (a.tmps.getD t undef) w) →
    if Region.wanted o (yielded ops a.tmps) = true then growAt P E s w ((execOp a.eval o).run P w) else s = .is undef

/-- the walk in the order of the text -/
def wpA (P : Program) (ops : Array Oper) (E : World → World → Prop) (w0 : World) (Q : List Slot → Prop) : List Oper → List Slot → Prop
  | [], ss => Q ss
  | o :: rest, ss => ∃ s, Good P ops E w0 ss o s ∧ wpA P ops E w0 Q rest (putS ss o.dst s)

def aOp (P : Program) (ops : Array Oper) (E : World → World → Prop) (w0 : World) (i : Nat) (K : List Slot → Prop) (ss : List Slot) : Prop :=
  match ops[i]? with
  | none => K ss
  | some o => ∃ s, Good P ops E w0 ss o s ∧ K (putS ss o.dst s)

theorem aOp_mono {i : Nat} {ss : List Slot} {K K' : List Slot → Prop} (h : ∀ ss, K ss → K' ss) (hh : aOp P ops E w0 i K ss) : aOp P ops E w0 i K' ss := by
  unfold aOp at *
  split
  · rename_i ho; simp only [ho] at hh; exact h _ hh
  · rename_i o ho
    simp only [ho] at hh
    obtain ⟨s, h1, h2⟩ := hh
    exact ⟨s, h1, h _ h2⟩

theorem Good.congr {ss ss' : List Slot} {o : Oper} {s : Slot} (h : Good P ops E w0 ss o s) (hl : ss'.length = ss.length) (hs : ∀ t ∈ o.looksAt ops, slotAt ss' t = slotAt ss t) : Good P ops E w0 ss' o s :=
  ⟨h.1, fun a w hw hz hk => h.2 a w hw (hz.trans hl) fun t ht => by have := hk t ht; rwa [hs t ht] at this⟩

theorem Good.aOp {i : Nat} {o : Oper} {s : Slot} {ss : List Slot} (hi : ops[i]? = some o) (hg : Good P ops E w0 ss o s) {K : List Slot → Prop} (h : K (putS ss o.dst s)) : aOp P ops E w0 i K ss := by
  unfold Go.Proofs.YtbcnekaagkdmeaaDoor.aOp
  simp only [hi]
  exact ⟨s, hg, h⟩

theorem good_of_aOp {i : Nat} {o : Oper} {ss : List Slot} {K : List Slot → Prop} (hi : ops[i]? = some o) (h : aOp P ops E w0 i K ss) : ∃ s, Good P ops E w0 ss o s ∧ K (putS ss o.dst s) := by
  unfold aOp at h
  simpa only [hi] using h

/-- operation oj, apart from oi: whether oi has run makes no difference to it, and it makes none to oi -/
theorem aOp_put {j : Nat} {oi oj : Oper} {s : Slot} (hj : ops[j]? = some oj) (hap : oi.apart ops oj = true) {K : List Slot → Prop} {ss : List Slot}
    (hy : Good P ops E w0 ss oi s) (h : aOp P ops E w0 j K (putS ss oi.dst s)) :
    aOp P ops E w0 j (fun ss' => Good P ops E w0 ss' oi s ∧ K (putS ss' oi.dst s)) ss := by
  obtain ⟨h1, h2, h3⟩ := Oper.apart_spec hap
  obtain ⟨u, hu, hk⟩ := good_of_aOp hj h
  refine Good.aOp hj (s := u) (hu.congr (putS_length _ _ _).symm fun t ht => ?_) ⟨hy.congr (putS_length _ _ _) fun t ht => ?_, ?_⟩
  · exact (slotAt_putS_ne fun e => h1 t e ht).symm
  · exact slotAt_putS_ne fun e => h3 t e ht
  · rw [← putS_comm ss s u h2]; exact hk

/-! ### From what is known to the frame -/
structure Sat (E : World → World → Prop) (ds : List Deferred) (ss : List Slot) (a : Act) (w : World) : Prop where
  size : a.tmps.size = ss.length
  defers : a.defers = ds
  mono : ∀ t, (slotAt ss t).mono E
  holds : ∀ t, (slotAt ss t).holds (a.tmps.getD t undef) w

theorem Sat.put {ds : List Deferred} {ss : List Slot} {a : Act} {w w' : World} {d : Option Tmp} {s : Slot} {v : Value} (h : Sat E ds ss a w) (he : E w w') (hs : s.mono E) (hv : s.holds v w') :
    Sat E ds (putS ss d s) (a.put d v) w' := by
  cases d with
  | none => exact ⟨h.size, h.defers, h.mono, fun t => h.mono t _ _ _ he (h.holds t)⟩
  | some d =>
    refine ⟨by simp [Act.put, putS, h.size], h.defers, fun t => ?_, fun t => ?_⟩
    · by_cases ht : d = t
      · subst ht
        by_cases hd : d < ss.length
        · rw [slotAt_putS_eq hd]; exact hs
        · have : slotAt (putS ss (some d) s) d = slotAt ss d := by simp [slotAt, putS, hd]
          rw [this]; exact h.mono d
      · rw [slotAt_putS_ne (fun e => ht (Option.some.inj e))]; exact h.mono t
    · by_cases ht : d = t
      · subst ht
        by_cases hd : d < ss.length
        · rw [slotAt_putS_eq hd]
          have : (a.put (some d) v).tmps.getD d undef = v := by simp [Act.put, h.size, hd]
          rw [this]; exact hv
        · have e1 : slotAt (putS ss (some d) s) d = slotAt ss d := by simp [slotAt, putS, hd]
          have e2 : (a.put (some d) v).tmps.getD d undef = a.tmps.getD d undef := by simp [Act.put, h.size, hd]
          rw [e1, e2]; exact h.mono d _ _ _ he (h.holds d)
      · rw [slotAt_putS_ne (fun e => ht (Option.some.inj e))]
        have e2 : (a.put (some d) v).tmps.getD t undef = a.tmps.getD t undef := by simp [Act.put, Array.getElem?_setIfInBounds_ne ht]
        rw [e2]; exact h.mono t _ _ _ he (h.holds t)

theorem wpOp_of_aOp (G : Grow E) {ds : List Deferred} {i : Nat} {ss : List Slot} {a : Act} {w : World} {K : List Slot → Prop} {K' : Act → World → Prop} {Q' : Exit → Act → World → Prop}
    (hw : E w0 w) (hs : Sat E ds ss a w) (h : ∀ ss' a' w', E w0 w' → Sat E ds ss' a' w' → K ss' → K' a' w') (hh : aOp P ops E w0 i K ss) : wpOp P ops Q' i K' a w := by
  unfold aOp at hh
  unfold wpOp
  split
  · rename_i ho; simp only [ho] at hh; exact h _ _ _ hw hs hh
  · rename_i o ho
    simp only [ho] at hh
    obtain ⟨s, ⟨hm, hg⟩, hk⟩ := hh
    have h1 := hg a w hw hs.size (fun t _ => hs.holds t)
    split
    · rename_i hwt
      rw [if_pos hwt] at h1
      refine .inl ?_
      unfold Oper.wp
      generalize (execOp a.eval o).run P w = r at *
      cases r with
      | ok n w' =>
        cases n <;> simp only [growAt] at h1 <;> simp only [Oper.upon]
        case value v => exact h _ _ _ (G.trans hw h1.1) (hs.put h1.1 hm h1.2) hk
        case skip => exact h _ _ _ (G.trans hw h1.1) (hs.put h1.1 hm h1.2) hk
        case enter f args =>
          refine h1.2.mono fun e w'' he => ?_
          obtain ⟨v, rfl, he2, hv⟩ := he
          have he3 := G.trans h1.1 he2
          exact h _ _ _ (G.trans hw he3) (hs.put he3 hm hv) hk
      | halt x w' => simp only [growAt] at h1
    · rename_i hwt
      rw [if_neg hwt] at h1
      subst h1
      exact h _ _ _ hw (hs.put (G.refl w) hm rfl) hk

/-! ### Whatever order is picked -/
def wpAnyA (P : Program) (md : Region.Mode) (ops : Array Oper) (E : World → World → Prop) (w0 : World) (Q : List Slot → Prop) : Nat → Array Bool → List Slot → Prop
  | 0, listed, ss => Region.ready md ops listed = [] ∧ Q ss
  | fuel + 1, listed, ss =>
    (Region.ready md ops listed = [] → Q ss) ∧ ∀ i ∈ Region.ready md ops listed, aOp P ops E w0 i (wpAnyA P md ops E w0 Q fuel (listed.setIfInBounds i true)) ss

theorem wpAny_of_abs (G : Grow E) {ds : List Deferred} {Q : List Slot → Prop} {Q' : Exit → Act → World → Prop} (hQ : ∀ ss a w, E w0 w → Sat E ds ss a w → Q ss → Q' .normal a w) :
    ∀ (fuel : Nat) (listed : Array Bool) (ss : List Slot) (a : Act) (w : World), E w0 w → Sat E ds ss a w → wpAnyA P md ops E w0 Q fuel listed ss → wpAny P md ops Q' fuel listed a w
  | 0, _, _, _, _, hw, hs, h => ⟨h.1, hQ _ _ _ hw hs h.2⟩
  | fuel + 1, _, _, _, _, hw, hs, h => ⟨fun h0 => hQ _ _ _ hw hs (h.1 h0), fun i hi => wpOp_of_aOp G hw hs (fun _ _ _ hw' hs' => wpAny_of_abs G hQ fuel _ _ _ _ hw' hs') (h.2 i hi)⟩

theorem wpAnyA_first {Q : List Slot → Prop} {i : Nat} {oi : Oper} {s : Slot} (hi : ops[i]? = some oi) :
    ∀ (fuel : Nat) (listed : Array Bool) (ss : List Slot),
      (∀ j oj, ops[j]? = some oj → j ≠ i → listed.getD j true = false → (∀ e ∈ oj.after, Region.binds md e = true → e.on ≠ i) → oi.apart ops oj = true) →
      i ∈ Region.ready md ops listed → Good P ops E w0 ss oi s →
      wpAnyA P md ops E w0 Q fuel (listed.setIfInBounds i true) (putS ss oi.dst s) → wpAnyA P md ops E w0 Q (fuel + 1) listed ss := by
  intro fuel
  induction fuel with
  | zero =>
    intro listed ss _ hr hy H
    refine ⟨fun h => (by rw [h] at hr; cases hr), fun j hj => ?_⟩
    by_cases hji : j = i
    · subst hji; exact hy.aOp hi H
    · have := ready_mono hj hji
      rw [H.1] at this
      cases this
  | succ fuel ih =>
    intro listed ss hfree hr hy H
    refine ⟨fun h => (by rw [h] at hr; cases hr), fun j hj => ?_⟩
    by_cases hji : j = i
    · subst hji; exact hy.aOp hi H
    · have h1 := H.2 j (ready_mono hj hji)
      obtain ⟨hjun, oj, hoj, hall⟩ := mem_ready.1 hj
      have hnot : ∀ e ∈ oj.after, Region.binds md e = true → e.on ≠ i := fun e he hb heq => by
        have h1 := hall e he hb
        rw [heq, getD_both (mem_ready.1 hr).1] at h1
        cases h1
      have h2 := aOp_put hoj (hfree j oj hoj hji hjun hnot) hy h1
      have hfree' : ∀ k ok, ops[k]? = some ok → k ≠ i → (listed.setIfInBounds j true).getD k true = false →
          (∀ e ∈ ok.after, Region.binds md e = true → e.on ≠ i) → oi.apart ops ok = true := fun k ok hk hki hun hno => by
        refine hfree k ok hk hki ?_ hno
        by_cases hjk : j = k
        · subst hjk; exact hjun
        · rw [getD_set_ne true hjk] at hun; exact hun
      refine aOp_mono (fun ss' h3 => ih (listed.setIfInBounds j true) ss' hfree' (ready_mono hr (Ne.symm hji)) h3.1 ?_) h2
      rw [Array.setIfInBounds_comm _ _ hji]
      exact h3.2

theorem wpAnyA_lex {Q : List Slot → Prop} : ∀ (l : List Oper) (k : Nat) (listed : Array Bool) (ss : List Slot), (∀ j, l[j]? = ops[k + j]?) →
    Region.lexFrom md ops l.length k listed = true → wpA P ops E w0 Q l ss → wpAnyA P md ops E w0 Q l.length listed ss
  | [], _, _, _, _, hB, h => ⟨by simpa [Region.lexFrom] using hB, h⟩
  | o :: l, k, listed, ss, hl, hB, h => by
    have h0 : ops[k]? = some o := by simpa using (hl 0).symm
    simp only [List.length_cons, Region.lexFrom, Bool.and_eq_true] at hB
    obtain ⟨⟨hr, hf⟩, hB'⟩ := hB
    obtain ⟨s, hg, hk⟩ := h
    exact wpAnyA_first h0 l.length listed ss (Region.free_spec h0 hf) (by simpa using hr) hg
      (wpAnyA_lex l (k + 1) _ _ (fun j => by have := hl (j + 1); simpa [Nat.add_assoc, Nat.add_comm 1 j] using this) hB' hk)

/-! ### Of a head, with a tail in one order -/
/-! ### The steps of the walk -/
theorem execOp_looks {o : Oper} (hs : ∀ cs b, o.op ≠ .select cs b) {a a' : Act} (h : ∀ t ∈ o.looksAt ops, a.tmps.getD t undef = a'.tmps.getD t undef) :
    execOp a.eval o = execOp a'.eval o :=
  execOp_congr o hs fun x hx => by
    cases x with
    | tmp t =>
      have ht : t ∈ o.looksAt ops := List.mem_append_left _ (List.mem_filterMap.2 ⟨.tmp t, by simpa using hx, rfl⟩)
      simpa [Act.eval] using h t ht
    | _ => rfl
theorem wanted_looks {o : Oper} {a a' : Act} (hz : a.tmps.size = a'.tmps.size) (h : ∀ t ∈ o.looksAt ops, a.tmps.getD t undef = a'.tmps.getD t undef) :
    Region.wanted o (yielded ops a.tmps) = Region.wanted o (yielded ops a'.tmps) := by
  unfold Region.wanted
  cases hg : o.guard with
  | none => rfl
  | some g =>
    obtain ⟨j, b⟩ := g
    simp only
    have e : yielded ops a.tmps j = yielded ops a'.tmps j := by
      unfold yielded
      cases hd : (ops[j]?).bind (·.dst) with
      | none => simp_all
      | some d =>
        have hd' : d ∈ o.looksAt ops := List.mem_append_right _ (by simp [hg, hd])
        have h1 := h d hd'
        by_cases hlt : d < a.tmps.size
        · have hlt' : d < a'.tmps.size := hz ▸ hlt
          simp [hlt, hlt'] at h1
          simp_all
        · have hlt' : ¬ d < a'.tmps.size := hz ▸ hlt
          simp_all
    rw [e]

/-- a frame in which temporaries t of ss have the values us says, the others those that are known -/
theorem lits_get (ss : List Slot) (t : Nat) : (lits ss).getD t undef = (slotAt ss t).lit := by
  unfold lits slotAt
  rcases Nat.lt_or_ge t ss.length with h | h
  · simp [h]
  · simp [h, Slot.lit]
theorem lits_size (ss : List Slot) : (lits ss).size = ss.length := by simp [lits]

section
variable {Q : List Slot → Prop} {o : Oper} {rest : List Oper} {ss : List Slot}

/-- an operation whose guard says no -/
theorem wpA_skip (hk : (o.looksAt ops).all (fun t => (slotAt ss t).exact) = true) (hg : Region.wanted o (yielded ops (lits ss)) = false)
    (h : wpA P ops E w0 Q rest (putS ss o.dst (.is undef))) : wpA P ops E w0 Q (o :: rest) ss := by
  refine ⟨.is undef, ⟨mono_is _, fun a w _ hz hl => ?_⟩, h⟩
  have e : Region.wanted o (yielded ops a.tmps) = Region.wanted o (yielded ops (lits ss)) :=
    wanted_looks (a' := ⟨lits ss, []⟩) (by simp [hz, lits_size]) fun t ht => by
      have h1 := hl t ht
      have h2 := List.all_eq_true.1 hk t ht
      rw [lits_get]
      cases hs : slotAt ss t with
      | is v => rw [hs] at h1; exact h1
      | has p => rw [hs] at h2; cases h2
  rw [e, hg]
  rfl

theorem good_exact {s : Slot} (hsel : ∀ cs b, o.op ≠ .select cs b) (hk : (o.looksAt ops).all (fun t => (slotAt ss t).exact) = true) (hg : Region.wanted o (yielded ops (lits ss)) = true) (hm : s.mono E)
    (h : ∀ w, E w0 w → growAt P E s w ((execOp (Act.eval ⟨lits ss, []⟩) o).run P w)) : Good P ops E w0 ss o s := by
  refine ⟨hm, fun a w hw hz hl => ?_⟩
  have heq : ∀ t ∈ o.looksAt ops, a.tmps.getD t undef = (⟨lits ss, []⟩ : Act).tmps.getD t undef := fun t ht => by
    have h1 := hl t ht
    have h2 := List.all_eq_true.1 hk t ht
    simp only [lits_get]
    cases hs : slotAt ss t with
    | is v => rw [hs] at h1; exact h1
    | has p => rw [hs] at h2; cases h2
  rw [wanted_looks (a' := ⟨lits ss, []⟩) (by simp [hz, lits_size]) heq, hg, if_pos rfl, execOp_looks hsel heq]
  exact h w hw

/-- an operation over known values that yields one value, in every world -/
theorem wpA_value (G : Grow E) (v : Value) (hsel : ∀ cs b, o.op ≠ .select cs b) (hk : (o.looksAt ops).all (fun t => (slotAt ss t).exact) = true) (hg : Region.wanted o (yielded ops (lits ss)) = true)
    (h : ∀ w, E w0 w → ∀ C : Result Next → Prop, C (.ok (.value v) w) → C ((execOp (Act.eval ⟨lits ss, []⟩) o).run P w)) (hn : wpA P ops E w0 Q rest (putS ss o.dst (.is v))) : wpA P ops E w0 Q (o :: rest) ss :=
  ⟨.is v, good_exact hsel hk hg (mono_is _) fun w hw => h w hw (growAt P E (.is v) w) ⟨G.refl w, rfl⟩, hn⟩

/-- an operation over known values, of whatever kind (a call) -/
theorem wpA_known (s : Slot) (hsel : ∀ cs b, o.op ≠ .select cs b) (hk : (o.looksAt ops).all (fun t => (slotAt ss t).exact) = true) (hg : Region.wanted o (yielded ops (lits ss)) = true) (hm : s.mono E)
    (h : ∀ w, E w0 w → growAt P E s w ((execOp (Act.eval ⟨lits ss, []⟩) o).run P w)) (hn : wpA P ops E w0 Q rest (putS ss o.dst s)) : wpA P ops E w0 Q (o :: rest) ss :=
  ⟨s, good_exact hsel hk hg hm h, hn⟩

theorem good_one {s : Slot} (t : Nat) (p : Value → World → Prop) (ht : slotAt ss t = .has p) (htl : t < ss.length) (hsel : ∀ cs b, o.op ≠ .select cs b)
    (hk : (o.looksAt ops).all (fun i => i == t || (slotAt ss i).exact) = true) (hin : (o.looksAt ops).contains t = true) (hg : ∀ u, Region.wanted o (yielded ops ((lits ss).setIfInBounds t u)) = true) (hm : s.mono E)
    (h : ∀ u w, E w0 w → p u w → growAt P E s w ((execOp (Act.eval ⟨(lits ss).setIfInBounds t u, []⟩) o).run P w)) : Good P ops E w0 ss o s := by
  refine ⟨hm, fun a w hw hz hl => ?_⟩
  have hp : p (a.tmps.getD t undef) w := by
    have := hl t (by simpa using hin)
    rw [ht] at this
    exact this
  have heq : ∀ i ∈ o.looksAt ops, a.tmps.getD i undef = (⟨(lits ss).setIfInBounds t (a.tmps.getD t undef), []⟩ : Act).tmps.getD i undef := fun i hi => by
    by_cases hit : t = i
    · subst hit
      simp [lits_size, htl]
    · have h1 := hl i hi
      have h2 := List.all_eq_true.1 hk i hi
      have e3 : ((lits ss).setIfInBounds t (a.tmps.getD t undef)).getD i undef = (lits ss).getD i undef := by simp [Array.getElem?_setIfInBounds_ne hit]
      have hne : (i == t) = false := by simpa using fun e => hit e.symm
      rw [hne, Bool.false_or] at h2
      show _ = ((lits ss).setIfInBounds t (a.tmps.getD t undef)).getD i undef
      rw [e3, lits_get]
      cases hs : slotAt ss i with
      | is v => rw [hs] at h1; exact h1
      | has p => rw [hs] at h2; cases h2
  rw [wanted_looks (a' := ⟨(lits ss).setIfInBounds t (a.tmps.getD t undef), []⟩) (by simp [hz, lits_size]) heq, hg, if_pos rfl, execOp_looks hsel heq]
  exact h _ w hw hp

/-- an operation that looks at one temporary of which a word is known -/
theorem wpA_one (t : Nat) (p : Value → World → Prop) (s : Slot) (ht : slotAt ss t = .has p) (htl : t < ss.length) (hsel : ∀ cs b, o.op ≠ .select cs b)
    (hk : (o.looksAt ops).all (fun i => i == t || (slotAt ss i).exact) = true) (hin : (o.looksAt ops).contains t = true) (hg : ∀ u, Region.wanted o (yielded ops ((lits ss).setIfInBounds t u)) = true) (hm : s.mono E)
    (h : ∀ u w, E w0 w → p u w → growAt P E s w ((execOp (Act.eval ⟨(lits ss).setIfInBounds t u, []⟩) o).run P w)) (hn : wpA P ops E w0 Q rest (putS ss o.dst s)) : wpA P ops E w0 Q (o :: rest) ss :=
  ⟨s, good_one t p ht htl hsel hk hin hg hm h, hn⟩
end

/-! ### At the end: the frame written out -/
def openS : List Slot → (List Value → World → Prop) → World → Prop
  | [], K, w => K [] w
  | .is v :: r, K, w => openS r (fun l w => K (v :: l) w) w
  | .has p :: r, K, w => ∀ u, p u w → openS r (fun l w => K (u :: l) w) w

theorem openS_spec : ∀ (ss : List Slot) (K : List Value → World → Prop) (w : World) (l : List Value), l.length = ss.length → (∀ t, (slotAt ss t).holds (l[t]?.getD undef) w) → openS ss K w → K l w
  | [], K, w, l, hl, _, h => by
    have : l = [] := List.eq_nil_of_length_eq_zero (by simpa using hl)
    subst this
    exact h
  | s :: r, K, w, l, hl, hh, h => by
    cases l with
    | nil => simp at hl
    | cons x l =>
      have h0 := hh 0
      have ht : ∀ t, (slotAt r t).holds (l[t]?.getD undef) w := fun t => by have := hh (t + 1); simpa [slotAt] using this
      simp only [slotAt, List.getElem?_cons_zero, Option.getD_some] at h0
      cases s with
      | is v =>
        have h0' : x = v := h0
        subst h0'
        exact openS_spec r _ w l (by simpa using hl) ht h
      | has p => exact openS_spec r _ w l (by simpa using hl) ht (h x h0)

theorem sat_start (E : World → World → Prop) (l : List Value) (ds : List Deferred) (w : World) : Sat E ds (l.map Slot.is) ⟨l.toArray, ds⟩ w := by
  have e : ∀ t, slotAt (l.map Slot.is) t = .is (l[t]?.getD undef) := fun t => by
    unfold slotAt
    rcases Nat.lt_or_ge t l.length with h | h
    · simp [h]
    · simp [h]
  refine ⟨by simp, rfl, fun t => by rw [e t]; exact mono_is _, fun t => ?_⟩
  rw [e t]
  simp [Slot.holds]

/-- what stands behind the region: asked of the frame written out -/
def doneS (E : World → World → Prop) (w0 : World) (K : Act → World → Prop) (ds : List Deferred) (ss : List Slot) : Prop :=
  ∀ w, E w0 w → openS ss (fun l w => K ⟨l.toArray, ds⟩ w) w

theorem doneS_spec {K : Act → World → Prop} {ds : List Deferred} {ss : List Slot} {a : Act} {w : World} (hw : E w0 w) (hs : Sat E ds ss a w) (h : doneS E w0 K ds ss) : K a w := by
  obtain ⟨⟨l⟩, d⟩ := a
  have hd : d = ds := hs.defers
  subst hd
  exact openS_spec ss _ w l (by simpa using hs.size) (fun t => by have := hs.holds t; simpa using this) (h w hw)

/-- **A REGION THAT DRAWS ITS ORDER, BY ONE WALK** -/
theorem wp_region_abs {id : Nat} {Q : Exit → Act → World → Prop} {l : List Value} {ds : List Deferred} {w : World} {lo : List Oper} (G : Grow E) (hm : P.follows .mixedOrders = true) (hB : Region.lexB .any lo.toArray = true)
    (h : wpA P lo.toArray E w.drew (doneS E w.drew (Q .normal) ds) lo (l.map Slot.is)) : (Code.region id lo.toArray true).wp P Q ⟨l.toArray, ds⟩ w := by
  simp only [Region.lexB, Bool.and_eq_true] at hB
  refine wp_region_any hm ?_
  have H := wpAnyA_lex (md := .any) (P := P) (E := E) (w0 := w.drew) lo 0 (Array.replicate lo.toArray.size false) (l.map Slot.is) (by simp) (by simpa using hB.2) h
  have := wpAny_of_abs (Q' := Q) (md := .any) (ops := lo.toArray) G (fun ss a w' hw hs hq => doneS_spec hw hs hq) lo.length _ (l.map Slot.is) ⟨l.toArray, ds⟩ w.drew (G.refl _) (sat_start E l ds _) H
  simpa using this

end

/-! ### The growth in use: what was there is as it was -/
def Ext (w w' : World) : Prop := Below w.heap.size w w'
theorem ext_grow : Grow Ext := ⟨fun w => Below.refl _ w, fun h k => Below.trans h (Below.mono k h.size)⟩
/-- a slice of bytes that reads l -/
def BytesR (l : List UInt8) (v : Value) (w : World) : Prop := ∃ A c, v = .slice A l.length c ∧ Rd w w.heap.size 1 A l.length c (bytesV l)
theorem mono_bytes (l : List UInt8) : (Slot.has (BytesR l)).mono Ext := fun _ _ _ he ⟨A, c, e, h⟩ => ⟨A, c, e, (h.below he).more he.size⟩
/-- the call gives the bytes l in a row of its own -/
theorem bytes_ret {e : Ending} {w w' : World} {l : List UInt8} {v : Value} {base : Nat} {t : TypeId} (he : e = .returned v) (ho : w'.ownsRow base t 1 v l.length (bytesV l)) (hb : Below w.heap.size w w') :
    ∃ v, e = .returned v ∧ Ext w w' ∧ (Slot.has (BytesR l)).holds v w' := by
  obtain ⟨A, c, rfl, hr⟩ := Rd.of_own ho
  exact ⟨_, he, hb, A, c, rfl, hr⟩
theorem is_ret {e : Ending} {w w' : World} {v : Value} (he : e = .returned v) (hb : Below w.heap.size w w') : ∃ u, e = .returned u ∧ Ext w w' ∧ (Slot.is v).holds u w' := ⟨v, he, hb, rfl⟩

section
variable {P : Program} {ops : Array Oper} {w0 : World} {Q : List Slot → Prop} {o : Oper} {rest : List Oper} {ss : List Slot}
/-- 'string(b)' -/
theorem wpA_str {src dst e : TypeId} (t : Nat) (l : List UInt8) (hs : P.underlying src = some (.slice e)) (he : P.underlying e = some (.int .u8)) (hd : P.underlying dst = some .string)
    (hop : o.op = .convert src dst (.tmp t)) (ht : slotAt ss t = .has (BytesR l)) (htl : t < ss.length)
    (hk : (o.looksAt ops).all (fun i => i == t || (slotAt ss i).exact) = true) (hin : (o.looksAt ops).contains t = true) (hg : ∀ u, Region.wanted o (yielded ops ((lits ss).setIfInBounds t u)) = true)
    (hn : wpA P ops Ext w0 Q rest (putS ss o.dst (.is (.string ⟨l.toArray⟩)))) : wpA P ops Ext w0 Q (o :: rest) ss := by
  refine wpA_one t (BytesR l) _ ht htl (fun _ _ h => by rw [hop] at h; cases h) hk hin hg (mono_is _) (fun u w _ hu => ?_) hn
  obtain ⟨A, c, rfl, hr⟩ := hu
  have h1 := run_str (P := P) w hs he hd hr
  have e1 : Act.eval ⟨(lits ss).setIfInBounds t (.slice A l.length c), []⟩ (.tmp t) = .slice A l.length c := by simp [Act.eval, lits_size, htl]
  have e2 : (execOp (Act.eval ⟨(lits ss).setIfInBounds t (.slice A l.length c), []⟩) o).run P w = .ok (.value (.string ⟨l.toArray⟩)) w := by
    simp [execOp, hop, e1, h1, Result.andThen]
  rw [e2]
  exact ⟨Below.refl _ _, rfl⟩
end
end

section
open Go.RowKit

structure Box (w w' : World) (cs : Array Value) : Prop where
  below : Below w.heap.size w w'
  size : w'.heap.size = w.heap.size + 1
  cell : ∀ j v, cs[j]? = some v → w'.cell? ⟨w.heap.size, j, none⟩ = some v
  free : ∀ j, w'.frozen? ⟨w.heap.size, j, none⟩ = false
theorem box_new (w : World) (cs : Array Value) (t : TypeId) : Box w (w.alloc (.cells cs t)) cs where
  below := (Below.refl _ _).alloc (Nat.le_refl _) _
  size := by simp
  cell := fun j v h => by
    rw [cell_of_row _ _ _ cs t (0, 0) (heap_alloc_new w _)]
    exact h
  free := fun j => by
    simp
theorem set2 (W : World) (b : Nat) (u v x y : Value) (c0 : W.cell? ⟨b, 0, none⟩ = some u) (c1 : W.cell? ⟨b, 1, none⟩ = some v) :
    ((W.setCell ⟨b, 0, none⟩ x).setCell ⟨b, 1, none⟩ y).cell? ⟨b, 0, none⟩ = some x ∧ ((W.setCell ⟨b, 0, none⟩ x).setCell ⟨b, 1, none⟩ y).cell? ⟨b, 1, none⟩ = some y := by
  constructor <;> go_simp
theorem below_set2 {B : Nat} {w W : World} (h : Below B w W) (b : Nat) (hb : B ≤ b) (x y : Value) : Below B w ((W.setCell ⟨b, 0, none⟩ x).setCell ⟨b, 1, none⟩ y) := (h.setCell hb x).setCell hb y
def AddEnd (w : World) (id : UInt32) (l : List Fd) (name : ByteArray) (k : Nat) (e : Ending) (w' : World) : Prop :=
  ∃ v, e = .returned (.tuple #[v, .int .i64 (addErr id l name k : Int)]) ∧ SchR w' v (addId id l name k) (addFds id l name k) ∧ Below w.heap.size w w'
theorem AddEnd.bad {w w' : World} {id : UInt32} {l : List Fd} {name : ByteArray} {k er : Nat} (h1 : addErr id l name k = er) (h2 : addId id l name k = 0) (h3 : addFds id l name k = []) (hb : Below w.heap.size w w') :
    AddEnd w id l name k (.returned (.tuple #[.agg #[.int .u32 0, .slice none 0 0], .int .i64 (er : Int)])) w' := ⟨_, by rw [h1], by rw [h2, h3]; exact SchR.none _, hb⟩
end

section
open Go.RowKit

/-- what stands in rows -/
inductive Vl where
  | none
  | whole (n : Int)
  | truth (b : Bool)
  | text (s : ByteArray)
instance : Inhabited Vl := ⟨.none⟩
def vlV : Vl → Value
  | .none => .nilIface
  | .whole n => .iface 2 (.int .i64 n)
  | .truth b => .iface 4 (.bool b)
  | .text s => .iface 9 (.string s)
def vlsV (l : List Vl) : List Value := l.map vlV
end

section
open Go.RowKit

structure Cl where
  kind : UInt8
  n : Int
  s : ByteArray
instance : Inhabited Cl := ⟨⟨0, 0, ⟨#[]⟩⟩⟩
/-- is it the empty text? -/
def emp (s : ByteArray) : Bool := s.toList.isEmpty
theorem emp_size (s : ByteArray) : emp s = decide (s.size = 0) := by
  unfold emp
  rw [Lib.toList_data, Lib.size_eq]
  cases s.data.toList <;> simp
/-- the error of a cell -/
def cellErr (c : Cl) : Nat :=
  if 3 < c.kind.toNat then 10
  else if (c.kind.toNat ≠ 3 ∧ emp c.s = false) ∨ (c.kind.toNat ≠ 1 ∧ c.kind.toNat ≠ 2 ∧ c.n ≠ 0) ∨ (c.kind.toNat = 2 ∧ c.n ≠ 0 ∧ c.n ≠ 1) then 1
  else if 64 < c.s.size then 5 else 0

set_option maxRecDepth 100000 in
set_option maxHeartbeats 2000000 in
theorem refCell (w : World) (c : Cl) : Calls Tryd.prog 54 #[.agg #[.int .u8 (c.kind.toNat : Int), .int .i64 c.n, .string c.s]] w fun e w' => e = .returned (.int .i64 (cellErr c : Int)) ∧ Below w.heap.size w w' := by
  have hb : c.kind.toNat < 256 := c.kind.toNat_lt
  have hE : emp c.s = c.s.toList.isEmpty := rfl
  have hZ := emp_size c.s
  generalize hk : c.kind.toNat = k at *
  generalize hn : c.n = n at *
  generalize hs : c.s = s at *
  have hce : cellErr c = if 3 < k then 10 else if (k ≠ 3 ∧ emp s = false) ∨ (k ≠ 1 ∧ k ≠ 2 ∧ n ≠ 0) ∨ (k = 2 ∧ n ≠ 0 ∧ n ≠ 1) then 1 else if 64 < s.size then 5 else 0 := by unfold cellErr; rw [hk, hn, hs]
  clear hk hn hs
  by_cases h3 : 3 < k
  · have t1 : decide ((3 : Int) < (k : Int)) = true := decide_eq_true (by omega)
    rw [if_pos h3] at hce
    rw [hce]
    clear h3 hE hZ hce
    go_enter Tryd.func54, Tryd.ntmps54
    go_wp2_with fail
    go_ret
    exact ⟨rfl, (Below.refl _ _).alloc (Nat.le_refl _) _⟩
  · rw [if_neg h3] at hce
    have hk4 : k = 0 ∨ k = 1 ∨ k = 2 ∨ k = 3 := by omega
    clear h3 hb
    generalize emp s = em at *
    have hE' : s.toList.isEmpty = em := hE.symm
    clear hE
    rcases hk4 with rfl | rfl | rfl | rfl
    · cases em with
      | false =>
        clear hZ
        have hres : cellErr c = 1 := by rw [hce]; simp
        rw [hres]
        clear hce hres
        go_enter Tryd.func54, Tryd.ntmps54
        go_wp2_with fail
        go_ret
        exact ⟨rfl, (Below.refl _ _).alloc (Nat.le_refl _) _⟩
      | true =>
        have hz0 : s.size = 0 := of_decide_eq_true hZ.symm
        have tl : decide ((64 : Int) < (s.size : Int)) = false := decide_eq_false (by omega)
        have hl : ¬ 64 < s.size := by omega
        clear hZ hz0
        by_cases hn0 : n = 0
        · subst hn0
          have hres : cellErr c = 0 := by rw [hce]; simp [hl]
          rw [hres]
          clear hce hres
          go_enter Tryd.func54, Tryd.ntmps54
          go_wp2_with fail
          go_ret
          exact ⟨rfl, (Below.refl _ _).alloc (Nat.le_refl _) _⟩
        · have tn : (n == 0) = false := by rw [beq_eq_false_iff_ne]; exact hn0
          have tn' : (n != 0) = true := by rw [bne_iff_ne]; exact hn0
          have hres : cellErr c = 1 := by rw [hce]; simp [hn0]
          rw [hres]
          clear hce hres
          go_enter Tryd.func54, Tryd.ntmps54
          go_wp2_with fail
          go_ret
          exact ⟨rfl, (Below.refl _ _).alloc (Nat.le_refl _) _⟩
    · cases em with
      | false =>
        clear hZ
        have hres : cellErr c = 1 := by rw [hce]; simp
        rw [hres]
        clear hce hres
        go_enter Tryd.func54, Tryd.ntmps54
        go_wp2_with fail
        go_ret
        exact ⟨rfl, (Below.refl _ _).alloc (Nat.le_refl _) _⟩
      | true =>
        have hz0 : s.size = 0 := of_decide_eq_true hZ.symm
        have tl : decide ((64 : Int) < (s.size : Int)) = false := decide_eq_false (by omega)
        have hl : ¬ 64 < s.size := by omega
        clear hZ hz0
        have hres : cellErr c = 0 := by rw [hce]; simp [hl]
        rw [hres]
        clear hce hres
        go_enter Tryd.func54, Tryd.ntmps54
        go_wp2_with fail
        go_ret
        exact ⟨rfl, (Below.refl _ _).alloc (Nat.le_refl _) _⟩
    · cases em with
      | false =>
        clear hZ
        have hres : cellErr c = 1 := by rw [hce]; simp
        rw [hres]
        clear hce hres
        go_enter Tryd.func54, Tryd.ntmps54
        go_wp2_with fail
        go_ret
        exact ⟨rfl, (Below.refl _ _).alloc (Nat.le_refl _) _⟩
      | true =>
        have hz0 : s.size = 0 := of_decide_eq_true hZ.symm
        have tl : decide ((64 : Int) < (s.size : Int)) = false := decide_eq_false (by omega)
        have hl : ¬ 64 < s.size := by omega
        clear hZ hz0
        by_cases hn0 : n = 0
        · subst hn0
          have hres : cellErr c = 0 := by rw [hce]; simp [hl]
          rw [hres]
          clear hce hres
          go_enter Tryd.func54, Tryd.ntmps54
          go_wp2_with fail
          go_ret
          exact ⟨rfl, (Below.refl _ _).alloc (Nat.le_refl _) _⟩
        · have tn : (n == 0) = false := by rw [beq_eq_false_iff_ne]; exact hn0
          have tn' : (n != 0) = true := by rw [bne_iff_ne]; exact hn0
          by_cases hn1 : n = 1
          · subst hn1
            have hres : cellErr c = 0 := by rw [hce]; simp [hl]
            rw [hres]
            clear hce hres
            go_enter Tryd.func54, Tryd.ntmps54
            go_wp2_with fail
            go_ret
            exact ⟨rfl, (Below.refl _ _).alloc (Nat.le_refl _) _⟩
          · have tm : (n == 1) = false := by rw [beq_eq_false_iff_ne]; exact hn1
            have tm' : (n != 1) = true := by rw [bne_iff_ne]; exact hn1
            have hres : cellErr c = 1 := by rw [hce]; simp [hn0, hn1]
            rw [hres]
            clear hce hres
            go_enter Tryd.func54, Tryd.ntmps54
            go_wp2_with fail
            go_ret
            exact ⟨rfl, (Below.refl _ _).alloc (Nat.le_refl _) _⟩
    · have hce : cellErr c = if (¬ (3 : Nat) ≠ 3 → False) ∧ False ∨ n ≠ 0 then 1 else if 64 < s.size then 5 else 0 := by rw [hce]; simp
      clear hZ hE'
      by_cases hn0 : n = 0
      · subst hn0
        by_cases hl : 64 < s.size
        · have tl : decide ((64 : Int) < (s.size : Int)) = true := decide_eq_true (by omega)
          have hres : cellErr c = 5 := by rw [hce]; simp [hl]
          rw [hres]
          clear hce hres
          go_enter Tryd.func54, Tryd.ntmps54
          go_wp2_with fail
          go_ret
          exact ⟨rfl, (Below.refl _ _).alloc (Nat.le_refl _) _⟩
        · have tl : decide ((64 : Int) < (s.size : Int)) = false := decide_eq_false (by omega)
          have hres : cellErr c = 0 := by rw [hce]; simp [hl]
          rw [hres]
          clear hce hres
          go_enter Tryd.func54, Tryd.ntmps54
          go_wp2_with fail
          go_ret
          exact ⟨rfl, (Below.refl _ _).alloc (Nat.le_refl _) _⟩
      · have tn : (n == 0) = false := by rw [beq_eq_false_iff_ne]; exact hn0
        have tn' : (n != 0) = true := by rw [bne_iff_ne]; exact hn0
        have hres : cellErr c = 1 := by rw [hce]; simp [hn0]
        rw [hres]
        clear hce hres
        go_enter Tryd.func54, Tryd.ntmps54
        go_wp2_with fail
        go_ret
        exact ⟨rfl, (Below.refl _ _).alloc (Nat.le_refl _) _⟩
end

section
open Go.RowKit

theorem errFrom_zero (l : List Fd) : ∀ b i, errFrom l b i = 0 → ∀ j, i ≤ j → j < i + b → errAt l j = 0 := by
  intro b
  induction b with
  | zero => intro i _ j h1 h2; omega
  | succ b ih =>
    intro i h j h1 h2
    by_cases h0 : errAt l i = 0
    · rw [errFrom_no l b i h0] at h
      by_cases e : j = i
      · rw [e]; exact h0
      · exact ih (i + 1) h j (by omega) (by omega)
    · rw [errFrom_yes l b i h0] at h
      exact absurd h h0
theorem check_all {id : UInt32} {l : List Fd} (h : check id l = 0) : ∀ j, j < l.length → errAt l j = 0 := by
  have h2 := check_len h
  unfold check at h
  rw [if_neg (by omega)] at h
  exact fun j hj => errFrom_zero l _ _ h j (Nat.zero_le _) (by omega)
end

section
open Go.RowKit

def two : List Fd := [⟨1, ⟨#[105, 100]⟩, 1, true⟩, ⟨2, ⟨#[110, 97, 109, 101]⟩, 3, false⟩]
def age : ByteArray := ⟨#[97, 103, 101]⟩
def three : List Fd := two ++ [newFd two age 1]
end

section
open Go.RowKit

/-! ### texts -/
def strsV (l : List ByteArray) : List Value := l.map .string
/-! ### a row that does not lie in a box -/
def Away (b : Nat) (A : Option Addr) (n : Nat) : Prop := 0 < n → ∀ b' off s, A = some ⟨b', off, s⟩ → b' ≠ b
theorem Rd.set {w : World} {B sz n c : Nat} {A : Option Addr} {xs : List Value} (h : Rd w B sz A n c xs) {b : Nat} (ha : Away b A n) (j : Nat) (x : Value) : Rd (w.setCell ⟨b, j, none⟩ x) B sz A n c xs :=
  ⟨h.len, h.le, h.cap, fun hn => by
    obtain ⟨b2, off, e, hb, hc⟩ := h.at_ hn
    have hne := ha hn _ _ _ e
    refine ⟨b2, off, e, hb, fun j2 u hu => ?_⟩
    have h3 := hc j2 u hu
    rw [World.cell?_setCell_other]
    · exact h3
    · intro q
      injection q with q
      exact hne q.symm⟩
/-- fields do not lie in a schema's box -/
theorem away_box {w : World} {B n c : Nat} {A : Option Addr} {l : List Fd} {b : Nat} {x : UInt32} {A2 : Option Addr} {n2 c2 : Nat} (h : Rd w B 4 A n c (fdsV l)) (h0 : w.cell? ⟨b, 0, none⟩ = some (.int .u32 (x.toNat : Int))) (h1 : w.cell? ⟨b, 1, none⟩ = some (.slice A2 n2 c2)) (h2 : ∀ j, 2 ≤ j → w.cell? ⟨b, j, none⟩ = none) : Away b A n := fun hn b' off s e q => by
  subst q
  have hl := h.lenF
  obtain ⟨b3, off3, e3, _, f0, f1, _, _⟩ := h.fd (k := 0) (by omega)
  rw [e] at e3
  injection e3 with e3
  injection e3 with q1 q2 q3
  subst q1 q2
  rcases Nat.lt_or_ge off 2 with q | q
  · rcases (show off = 0 ∨ off = 1 by omega) with rfl | rfl
    · have := f1
      rw [show 0 + 0 * 4 + 1 = 1 by omega, h1] at this
      cases this
    · have := f0
      rw [show 1 + 0 * 4 = 1 by omega, h1] at this
      cases this
  · have := f0
    rw [show off + 0 * 4 = off by omega, h2 off q] at this
    cases this

/-! ### what holds at each round -/
structure GI (wL : World) (bt : Nat) (l : List Fd) (rv : List Vl) (tid : UInt32) (tA : Option Addr) (tc : Nat) (tl ext : List Fd) (nA : Option Addr) (nc : Nat) (now : List Vl) (wr : World) : Prop where
  tl_ : tl = l ++ ext
  now_ : now = rv ++ List.replicate ext.length .none
  chk : check tid tl = 0
  c0 : wr.cell? ⟨bt, 0, none⟩ = some (.int .u32 (tid.toNat : Int))
  c1 : wr.cell? ⟨bt, 1, none⟩ = some (.slice tA tl.length tc)
  c2 : ∀ j, 2 ≤ j → wr.cell? ⟨bt, j, none⟩ = none
  f0 : wr.frozen? ⟨bt, 0, none⟩ = false
  f1 : wr.frozen? ⟨bt, 1, none⟩ = false
  z : bt < wr.heap.size
  rt : Rd wr wr.heap.size 4 tA tl.length tc (fdsV tl)
  rn : Rd wr wr.heap.size 1 nA now.length nc (vlsV now)
  an : Away bt nA now.length
  below : Below bt wL wr
section
variable {wL : World} {bt : Nat} {l : List Fd} {rv : List Vl} {tid : UInt32} {tA : Option Addr} {tc : Nat} {tl ext : List Fd} {nA : Option Addr} {nc : Nat} {now : List Vl} {wr w' : World}
theorem GI.call (h : GI wL bt l rv tid tA tc tl ext nA nc now wr) (hb : Below wr.heap.size wr w') : GI wL bt l rv tid tA tc tl ext nA nc now w' where
  tl_ := h.tl_
  now_ := h.now_
  chk := h.chk
  c0 := (hb.cell (p := ⟨bt, 0, none⟩) h.z).trans h.c0
  c1 := (hb.cell (p := ⟨bt, 1, none⟩) h.z).trans h.c1
  c2 := fun j hj => (hb.cell (p := ⟨bt, j, none⟩) h.z).trans (h.c2 j hj)
  f0 := (hb.frozen (p := ⟨bt, 0, none⟩) h.z).trans h.f0
  f1 := (hb.frozen (p := ⟨bt, 1, none⟩) h.z).trans h.f1
  z := Nat.lt_of_lt_of_le h.z hb.size
  rt := (h.rt.below hb).more hb.size
  rn := (h.rn.below hb).more hb.size
  an := h.an
  below := below_call h.below (Nat.le_of_lt h.z) hb
/-- a longer one is stored -/
theorem GI.store (h : GI wL bt l rv tid tA tc tl ext nA nc now wr) {uid : UInt32} {uA : Option Addr} {uc : Nat} {f : Fd} {mA : Option Addr} {mc : Nat} (hc : check uid (tl ++ [f]) = 0)
    (ru : Rd wr wr.heap.size 4 uA (tl ++ [f]).length uc (fdsV (tl ++ [f]))) (rm : Rd wr wr.heap.size 1 mA (now ++ [Vl.none]).length mc (vlsV (now ++ [Vl.none]))) (am : Away bt mA (now ++ [Vl.none]).length) :
    GI wL bt l rv uid uA uc (tl ++ [f]) (ext ++ [f]) mA mc (now ++ [Vl.none]) ((wr.setCell ⟨bt, 0, none⟩ (.int .u32 (uid.toNat : Int))).setCell ⟨bt, 1, none⟩ (.slice uA (tl ++ [f]).length uc)) := by
  have hs : ((wr.setCell ⟨bt, 0, none⟩ (.int .u32 (uid.toNat : Int))).setCell ⟨bt, 1, none⟩ (.slice uA (tl ++ [f]).length uc)).heap.size = wr.heap.size := by simp
  have au := away_box ru h.c0 h.c1 h.c2
  obtain ⟨q0, q1⟩ := set2 wr bt _ _ (.int .u32 (uid.toNat : Int)) (.slice uA (tl ++ [f]).length uc) h.c0 h.c1
  have f0 := h.f0
  have f1 := h.f1
  refine ⟨by rw [h.tl_, List.append_assoc], ?_, hc, q0, q1, fun j hj => ?_, by go_simp, by go_simp, by rw [hs]; exact h.z, by rw [hs]; exact (ru.set au 0 _).set au 1 _, by rw [hs]; exact (rm.set am 0 _).set am 1 _, am, below_set2 h.below bt (Nat.le_refl _) _ _⟩
  · rw [h.now_, List.append_assoc, List.length_append]
    simp [List.replicate_succ']
  · rw [World.cell?_setCell_other, World.cell?_setCell_other]
    · exact h.c2 j hj
    · intro q; injection q with _ q; omega
    · intro q; injection q with _ q; omega
end

/-! ### rows that are alike -/
section
variable {wL : World} {bt : Nat} {l : List Fd} {rv : List Vl} {tid : UInt32} {tA : Option Addr} {tc : Nat} {tl ext : List Fd} {nA : Option Addr} {nc : Nat} {now : List Vl} {wr w1 : World} {name : ByteArray} {k : Nat}
end
end

section
namespace Var

/-- a number's bytes -/
def put (n : Nat) : List UInt8 := if n < 128 then [UInt8.ofNat n] else UInt8.ofNat (n % 128 + 128) :: put (n / 128)
termination_by n
decreasing_by omega

theorem put_lt {n : Nat} (h : n < 128) : put n = [UInt8.ofNat n] := by rw [put, if_pos h]
theorem put_ge {n : Nat} (h : 128 ≤ n) : put n = UInt8.ofNat (n % 128 + 128) :: put (n / 128) := by rw [put, if_neg (by omega)]

theorem put_pos (n : Nat) : 0 < (put n).length := by
  rw [put]; split <;> simp
theorem put_le (k : Nat) : ∀ n, n < 128 ^ (k + 1) → (put n).length ≤ k + 1 := by
  induction k with
  | zero => intro n h; rw [put_lt (by simpa using h)]; simp
  | succ k ih =>
    intro n h
    by_cases hn : n < 128
    · rw [put_lt hn]; simp
    · rw [put_ge (by omega)]
      have := ih (n / 128) (by rw [Nat.div_lt_iff_lt_mul (by omega)]; rw [Nat.pow_succ] at h; exact h)
      simp; omega
theorem put_le10 {n : Nat} (h : n < 18446744073709551616) : (put n).length ≤ 10 := put_le 9 n (by omega)

theorem toNat_ofNat_lt {n : Nat} (h : n < 256) : (UInt8.ofNat n).toNat = n := by
  simp [Nat.mod_eq_of_lt h]

/-- the number that bytes say, the lowest seven bits first -/
def val : List UInt8 → Nat
  | [] => 0
  | c :: r => c.toNat % 128 + 128 * val r

/-- what varint.Get does: at byte i, acc gathered: the number, how many bytes, the error -/
def getL : Nat → Nat → List UInt8 → Nat × Nat × Nat
  | _, _, [] => (0, 0, 30)
  | i, acc, c :: r =>
    if i = 9 ∧ 1 < c.toNat then (0, 0, 31)
    else if c.toNat < 128 then (if c.toNat = 0 ∧ 0 < i then (0, 0, 31) else (acc + (c.toNat % 128) * 2 ^ (7 * i), i + 1, 0))
    else getL (i + 1) (acc + (c.toNat % 128) * 2 ^ (7 * i)) r
def get (l : List UInt8) : Nat × Nat × Nat := getL 0 0 l

/-- how many bytes stand ahead of the first that lacks its topmost bit -/
def lead : List UInt8 → Nat
  | [] => 0
  | c :: r => if c.toNat < 128 then 0 else lead r + 1

theorem lead_le (l : List UInt8) : lead l ≤ l.length := by
  induction l with
  | nil => simp [lead]
  | cons c r ih => simp only [lead]; split <;> simp; omega

theorem get_nine (r : List UInt8) (acc : Nat) : getL 9 acc r = match r with
    | [] => (0, 0, 30)
    | c :: _ => if 1 < c.toNat then (0, 0, 31) else if c.toNat = 0 then (0, 0, 31) else (acc + c.toNat * 2 ^ 63, 10, 0) := by
  cases r with
  | nil => rfl
  | cons c r =>
    simp only [getL]
    by_cases h : 1 < c.toNat
    · simp [h]
    · have h2 : c.toNat < 128 := by omega
      simp only [h, and_false, if_false, h2, if_true]
      by_cases h0 : c.toNat = 0
      · simp [h0]
      · have : c.toNat = 1 := by omega
        simp [this]

/-- Get, by the lead -/
theorem getL_eq (k : Nat) : ∀ (i acc : Nat) (l : List UInt8), i + k = 9 →
    getL i acc l =
      if k < lead l then (0, 0, 31)
      else if lead l = l.length then (0, 0, 30)
      else if (lead l = k ∧ 1 < (l.getD (lead l) 0).toNat) ∨ ((l.getD (lead l) 0).toNat = 0 ∧ 0 < i + lead l) then (0, 0, 31)
      else (acc + val (l.take (lead l + 1)) * 2 ^ (7 * i), i + lead l + 1, 0) := by
  induction k with
  | zero =>
    intro i acc l hi
    obtain rfl : i = 9 := by omega
    rw [get_nine]
    cases l with
    | nil => simp [lead]
    | cons c r =>
      simp only [lead]
      by_cases h : c.toNat < 128
      · simp only [if_pos h]
        by_cases h1 : 1 < c.toNat
        · simp [h1]
        · by_cases h0 : c.toNat = 0
          · simp [h0]
          · have : c.toNat = 1 := by omega
            simp [this, val]
      · have : 1 < c.toNat := by omega
        simp [this, h]
  | succ k ih =>
    intro i acc l hi
    cases l with
    | nil => simp [getL, lead]
    | cons c r =>
      simp only [getL, lead]
      have h9 : ¬ (i = 9 ∧ 1 < c.toNat) := by omega
      rw [if_neg h9]
      by_cases h : c.toNat < 128
      · simp only [if_pos h]
        by_cases h0 : c.toNat = 0 ∧ 0 < i
        · simp [h0]
        · have hm : c.toNat % 128 = c.toNat := by omega
          have h0' : ¬ (c.toNat = 0 ∧ 0 < i) := h0
          simp [h0', val, hm]
      · simp only [if_neg h]
        rw [ih (i + 1) _ r (by omega)]
        have e1 : (k < lead r) ↔ (k + 1 < lead r + 1) := by omega
        have e2 : (lead r = r.length) ↔ (lead r + 1 = (c :: r).length) := by simp
        have e3 : (c :: r).getD (lead r + 1) 0 = r.getD (lead r) 0 := by simp
        have e4 : (lead r = k) ↔ (lead r + 1 = k + 1) := by omega
        have e5 : (0 < i + 1 + lead r) ↔ (0 < i + (lead r + 1)) := by omega
        rw [e3]
        simp only [← e1, ← e2, ← e4, ← e5]
        split
        · rfl
        split
        · rfl
        split
        · rfl
        · have ev : val ((c :: r).take (lead r + 1 + 1)) = c.toNat % 128 + 128 * val (r.take (lead r + 1)) := by simp [val]
          rw [ev]
          have ep : 2 ^ (7 * (i + 1)) = 128 * 2 ^ (7 * i) := by rw [Nat.mul_add, Nat.pow_add]; omega
          rw [ep]
          simp only [Prod.mk.injEq, and_true]
          refine ⟨?_, by omega⟩
          rw [Nat.add_mul, Nat.add_assoc]
          congr 2
          rw [← Nat.mul_assoc, Nat.mul_comm (val _) 128]

theorem get_eq (l : List UInt8) : get l =
      if 9 < lead l then (0, 0, 31)
      else if lead l = l.length then (0, 0, 30)
      else if (lead l = 9 ∧ 1 < (l.getD (lead l) 0).toNat) ∨ ((l.getD (lead l) 0).toNat = 0 ∧ 0 < lead l) then (0, 0, 31)
      else (val (l.take (lead l + 1)), lead l + 1, 0) := by
  unfold get
  rw [getL_eq 9 0 0 l rfl]
  simp

/-- a text that is a number's bytes -/
theorem put_val : ∀ (l : List UInt8), lead l < l.length → ¬ ((l.getD (lead l) 0).toNat = 0 ∧ 0 < lead l) → put (val (l.take (lead l + 1))) = l.take (lead l + 1)
  | [], h, _ => by simp [lead] at h
  | c :: r, h, hz => by
    simp only [lead] at h hz ⊢
    by_cases hc : c.toNat < 128
    · simp only [if_pos hc]
      simp only [Nat.zero_add, List.take_succ_cons, List.take_zero, val]
      have : c.toNat % 128 + 128 * 0 = c.toNat := by omega
      rw [this, put_lt hc]
      simp
    · simp only [if_neg hc] at h hz ⊢
      have hr : lead r < r.length := by simpa using h
      have hg : (c :: r).getD (lead r + 1) 0 = r.getD (lead r) 0 := by simp
      rw [hg] at hz
      have hnz : (r.getD (lead r) 0).toNat ≠ 0 := fun e => hz ⟨e, by omega⟩
      have ih := put_val r hr (fun e => hnz e.1)
      have ev : val ((c :: r).take (lead r + 1 + 1)) = c.toNat % 128 + 128 * val (r.take (lead r + 1)) := by simp [val]
      rw [ev]
      have hpos : 0 < val (r.take (lead r + 1)) := val_pos r hr hnz
      rw [put_ge (by omega)]
      have hlt := c.toNat_lt
      have e1 : (c.toNat % 128 + 128 * val (r.take (lead r + 1))) % 128 + 128 = c.toNat := by omega
      have e2 : (c.toNat % 128 + 128 * val (r.take (lead r + 1))) / 128 = val (r.take (lead r + 1)) := by omega
      rw [e1, e2, ih]
      simp
where
  val_pos : ∀ (l : List UInt8), lead l < l.length → (l.getD (lead l) 0).toNat ≠ 0 → 0 < val (l.take (lead l + 1))
  | [], h, _ => by simp [lead] at h
  | c :: r, h, hz => by
    simp only [lead] at h hz ⊢
    by_cases hc : c.toNat < 128
    · simp only [if_pos hc] at hz ⊢
      simp at hz
      simp only [Nat.zero_add, List.take_succ_cons, List.take_zero, val]
      omega
    · simp only [if_neg hc] at h hz ⊢
      have hg : (c :: r).getD (lead r + 1) 0 = r.getD (lead r) 0 := by simp
      rw [hg] at hz
      have := val_pos r (by simpa using h) hz
      have ev : val ((c :: r).take (lead r + 1 + 1)) = c.toNat % 128 + 128 * val (r.take (lead r + 1)) := by simp [val]
      rw [ev]; omega

/-- what Get takes are just a number's bytes -/
theorem get_ok {l : List UInt8} {n k : Nat} (h : get l = (n, k, 0)) : put n = l.take k ∧ k ≤ l.length ∧ 0 < k := by
  rw [get_eq] at h
  have hle := lead_le l
  split at h
  · simp at h
  split at h
  · simp at h
  split at h
  · simp at h
  · rename_i h1 h2 h3
    simp only [Prod.mk.injEq, and_true] at h
    obtain ⟨rfl, rfl⟩ := h
    exact ⟨put_val l (by omega) (fun e => h3 (.inr e)), by omega, by omega⟩
theorem val_lt (l : List UInt8) : val l < 128 ^ l.length := by
  induction l with
  | nil => simp [val]
  | cons c r ih => simp only [val, List.length_cons, Nat.pow_succ]; omega
theorem val_last (l : List UInt8) (k : Nat) (h : l.length = k + 1) (b : Nat) (hb : (l.getD k 0).toNat ≤ b) (hb2 : b < 128) : val l < (b + 1) * 128 ^ k := by
  induction l generalizing k with
  | nil => simp at h
  | cons c r ih =>
    cases k with
    | zero =>
      have : r = [] := by simpa using h
      subst this
      simp at hb
      simp [val]; omega
    | succ k =>
      have := ih k (by simpa using h) (by simpa using hb)
      simp only [val, Nat.pow_succ]
      have e : (b + 1) * (128 ^ k * 128) = 128 * ((b + 1) * 128 ^ k) := by rw [← Nat.mul_assoc, Nat.mul_comm]
      rw [e]; omega
theorem get_lt (l : List UInt8) : (get l).1 < 18446744073709551616 := by
  rw [get_eq]
  split
  · simp
  split
  · simp
  split
  · simp
  · rename_i h1 h2 h3
    have hle := lead_le l
    by_cases h9 : lead l = 9
    · have hb : (l.getD 9 0).toNat ≤ 1 := by
        rw [h9] at h3
        omega
      have hlen : (l.take 10).length = 10 := by rw [List.length_take]; omega
      have hg : ((l.take 10).getD 9 0) = l.getD 9 0 := by simp [List.getD]
      have := val_last (l.take 10) 9 hlen 1 (by rw [hg]; exact hb) (by omega)
      rw [h9]
      simpa using this
    · have hv := val_lt (l.take (lead l + 1))
      have hlen : (l.take (lead l + 1)).length ≤ 9 := by rw [List.length_take]; omega
      have hp : 128 ^ (l.take (lead l + 1)).length ≤ 128 ^ 9 := Nat.pow_le_pow_right (by omega) hlen
      simp only
      omega
end Var
end

section
open Go.RowKit

theorem byte_or (m : Nat) : bits BinOp.or .u8 ((m : Int) % 256) 128 = ((UInt8.ofNat (m % 128 + 128)).toNat : Int) := by
  rw [Var.toNat_ofNat_lt (by omega)]
  have e : (m : Int) % 256 = ((m % 256 : Nat) : Int) := by omega
  rw [e]
  have h := u8_or_nat (m % 256) 128 (by omega) (by omega)
  have h2 : m % 256 ||| 128 = m % 128 + 128 := by
    rcases (show m % 256 / 128 = 0 ∨ m % 256 / 128 = 1 by omega) with h4 | h4
    · have : m % 256 = m % 128 := by omega
      rw [this, Nat.or_comm, nat_join 7 128 (m % 128) (by decide) (by omega)]; omega
    · have h5 : m % 256 = 128 + m % 128 := by omega
      rw [h5, ← nat_join 7 128 (m % 128) (by decide) (by omega), Nat.or_comm, ← Nat.or_assoc, Nat.or_self, nat_join 7 128 (m % 128) (by decide) (by omega)]; omega
  rw [← h2]
  exact h
theorem byte_more (m : Nat) : Value.int .u8 (bits BinOp.or .u8 ((m : Int) % 256) 128) = byteV (UInt8.ofNat (m % 128 + 128)) := by
  unfold byteV; rw [byte_or]
theorem byte_last {m : Nat} (h : m < 128) : Value.int .u8 (m : Int) = byteV (UInt8.ofNat m) := by
  unfold byteV; rw [Var.toNat_ofNat_lt (by omega)]

theorem varPut (n : Int) (w : World) (h0 : 0 ≤ n) (h1 : n ≤ 18446744073709551615) :
    Calls Tryd.prog 38 #[.int .u64 n] w (RetBytes w (Var.put n.toNat)) := by
  obtain ⟨N, rfl⟩ := Int.eq_ofNat_of_zero_le h0
  rw [Int.toNat_natCast]
  have H1 := hide h1
  clear h1 h0
  go_enter Tryd.func38, Tryd.ntmps38
  go_wp2
  go_loopw [0, 3] (fun nv bv wr => ∃ (m : Nat) (l : List UInt8), m ≤ N ∧ nv = .int .u64 m ∧ Hid (Var.put N = l ++ Var.put m) ∧ wr.ownsRow w.heap.size 5 1 bv l.length (bytesV l) ∧ Below w.heap.size w wr) (fun nv _ _ => (intOf nv).toNat)
  case atStart => exact ⟨N, [], Nat.le_refl _, rfl, hide (by simp), World.ownsRow_nil _ _ _ _, Below.refl _ _⟩
  case round =>
    obtain ⟨m, l, hm, rfl, hp, hown, hb⟩ := hrel
    have hlen : l.length + (Var.put m).length ≤ 10 := by have h1 := Var.put_le10 (n := N) (by have := H1.out; omega); rw [hp.out] at h1; simpa using h1
    have hpos := Var.put_pos m
    by_cases hlt : 128 ≤ m
    · have ht : decide ((128 : Int) ≤ (m : Int)) = true := by simp; omega
      go_wp2_with (at_builtin; refine wpList_app _ tyBytes rfl _ _ rfl w.heap.size _ _ _ rfl (hown.alloc _) (wr.heap.size + 1) _ 1 1 _ rfl (Rd.lit wr 5 _ rfl (by decide)) (one_int _ _) ?c2 ?c3 ?_)
      case c2 => omega
      case c3 => have := hb.size; simp; omega
      intro v1 w1 hown1 hg1 hat1
      have hb1 : Below w.heap.size w w1 := below_app (hb.alloc hb.size _) (Nat.le_refl _) (hown.alloc _) hg1 (by have := hb.size; simp; omega)
      clear hg1 hat1 hown hb
      go_wp2
      go_roundw
      case rel =>
        refine ⟨m / 128, l ++ [UInt8.ofNat (m % 128 + 128)], by omega, by go_num, hide (by rw [hp.out, Var.put_ge hlt]; simp), ?_, hb1⟩
        rw [byte_more] at hown1
        simpa [bytesV] using hown1
      case measure => simp [intOf]; omega
    · have ht : decide ((128 : Int) ≤ (m : Int)) = false := by simp; omega
      go_wp2_with (at_builtin; refine wpList_app _ tyBytes rfl _ _ rfl w.heap.size _ _ _ rfl (hown.alloc _) (wr.heap.size + 1) _ 1 1 _ rfl (Rd.lit wr 5 _ rfl (by decide)) (one_int _ _) ?c2 ?c3 ?_)
      case c2 => omega
      case c3 => have := hb.size; simp; omega
      intro v1 w1 hown1 hg1 hat1
      have hb1 : Below w.heap.size w w1 := below_app (hb.alloc hb.size _) (Nat.le_refl _) (hown.alloc _) hg1 (by have := hb.size; simp; omega)
      clear hg1 hat1 hown hb
      go_wp2
      go_ret
      refine ⟨v1, rfl, ?_, hb1⟩
      rw [byte_last (by omega)] at hown1
      rw [hp.out, Var.put_lt (by omega)]
      simpa [bytesV] using hown1

theorem refPut_any (k : Nat) : ∀ (n : Int) (w : World), 0 ≤ n → n ≤ k → Hid (n ≤ 18446744073709551615) →
    Calls Tryd.prog 43 #[.int .u64 n] w (RetBytes w (Var.put n.toNat)) := by
  induction k with
  | zero =>
    intro n w h0 hk H1
    obtain rfl : n = 0 := by omega
    go_enter Tryd.func43, Tryd.ntmps43
    go_wp2_with fail
    go_ret
    refine ⟨_, rfl, ?_, (Below.refl _ _).alloc (Nat.le_refl _) _⟩
    have := own_lit w 5 1 1 #[.int .u8 0] (Nat.le_refl _) (by decide) rfl
    simpa [Var.put_lt, bytesV, byteV] using this
  | succ k ih =>
    intro n w h0 hk H1
    have IH := hide ih
    clear ih
    obtain ⟨N, rfl⟩ := Int.eq_ofNat_of_zero_le h0
    rw [Int.toNat_natCast]
    by_cases hlt : N < 128
    · have ht : decide ((N : Int) < (128 : Int)) = true := by simp; omega
      go_enter Tryd.func43, Tryd.ntmps43
      go_wp2_with fail
      go_ret
      refine ⟨_, rfl, ?_, (Below.refl _ _).alloc (Nat.le_refl _) _⟩
      have := own_lit w 5 1 1 #[.int .u8 (N : Int)] (Nat.le_refl _) (by decide) rfl
      rw [byte_last hlt] at this
      rw [byte_last hlt, Var.put_lt hlt]
      simpa [bytesV] using this
    · have ht : decide ((N : Int) < (128 : Int)) = false := by simp; omega
      have hq : IntKind.u64.wrap ((N : Int) / 128) = (N : Int) / 128 := IntWalk.u64_in _ ⟨by omega, by have := H1.out; omega⟩
      go_enter Tryd.func43, Tryd.ntmps43
      go_wp2_with fail
      refine (IH.out _ _ (by omega) (by omega) (hide (by have := H1.out; omega))).mono ?_
      rintro e w1 ⟨v1, rfl, hown1, hb1⟩
      have hp : ((N : Int) / 128).toNat = N / 128 := by omega
      rw [hp] at hown1
      have hlit := own_below (own_lit w (base := w.heap.size) 5 1 1 #[.int .u8 ((N : Int) % 128 + 128)] (Nat.le_refl _) (by decide) rfl) hb1
      have hlen := Var.put_le10 (n := N / 128) (by have := H1.out; omega)
      have hz := hb1.size
      simp only [World.size_alloc] at hz
      have hb0 : Below w.heap.size w w1 := ((Below.refl _ _).alloc (Nat.le_refl _) _).trans (hb1.mono (by simp))
      obtain ⟨A, c, rfl, hr⟩ := Rd.of_own hown1
      clear hp hq
      go_wp2_with (at_builtin; go_loud (refine wpList_app _ tyBytes rfl _ _ rfl w.heap.size _ _ _ rfl hlit w1.heap.size _ _ _ _ rfl hr (bytesV_one _) ?c2 ?c3 ?_))
      case c2 => omega
      case c3 => omega
      intro v2 w2 hown2 hg2 hat2
      have hb2 : Below w.heap.size w w2 := below_app hb0 (Nat.le_refl _) hlit hg2 (by omega)
      clear hg2 hat2
      go_wp2
      go_ret
      refine ⟨v2, rfl, ?_, hb2⟩
      rw [Var.put_ge (by omega)]
      have e : Value.int .u8 ((N : Int) % 128 + 128) = byteV (UInt8.ofNat (N % 128 + 128)) := by
        unfold byteV; rw [Var.toNat_ofNat_lt (by omega)]; congr 1
      rw [e] at hown2
      simpa [bytesV, Nat.add_comm] using hown2
theorem refPut (n : Int) (w : World) (h0 : 0 ≤ n) (h1 : n ≤ 18446744073709551615) :
    Calls Tryd.prog 43 #[.int .u64 n] w (RetBytes w (Var.put n.toNat)) :=
  refPut_any n.toNat n w h0 (by omega) (hide h1)
end

section
open Go.RowKit

theorem or_step (acc k x : Nat) (hk : k ≤ 9) (hx : x < 256) (hacc : acc < 2 ^ (7 * k)) (h9 : k = 9 → x ≤ 1) :
    bits BinOp.or .u64 (acc : Int) (IntKind.u64.wrap (IntKind.u64.wrap (bits BinOp.and .u8 (x : Int) 127) * 2 ^ (7 * k))) = ((acc + x % 128 * 2 ^ (7 * k) : Nat) : Int) := by
  have e1 : bits BinOp.and .u8 (x : Int) 127 = ((x % 128 : Nat) : Int) := by
    have := u8_and_nat x 127 hx (by omega)
    rw [nat_mask7] at this
    exact this
  rw [e1, IntWalk.u64_in ((x % 128 : Nat) : Int) ⟨by omega, by omega⟩]
  have e2 : ((x % 128 : Nat) : Int) * 2 ^ (7 * k) = ((x % 128 * 2 ^ (7 * k) : Nat) : Int) := by
    rw [Int.natCast_mul, Int.natCast_pow]; rfl
  have hb : x % 128 * 2 ^ (7 * k) ≤ 9223372036854775808 := by
    by_cases h : k = 9
    · have := h9 h
      subst h
      have : x % 128 ≤ 1 := by omega
      have := Nat.mul_le_mul_right (2 ^ (7 * 9)) this
      omega
    · have h1 : 2 ^ (7 * k) ≤ 2 ^ 56 := Nat.pow_le_pow_right (by omega) (by omega)
      have h2 : x % 128 * 2 ^ (7 * k) ≤ 127 * 2 ^ 56 := Nat.mul_le_mul (by omega) h1
      omega
  have ha : acc < 9223372036854775808 := by
    have h1 : 2 ^ (7 * k) ≤ 2 ^ 63 := Nat.pow_le_pow_right (by omega) (by omega)
    omega
  rw [e2, IntWalk.u64_in ((x % 128 * 2 ^ (7 * k) : Nat) : Int) ⟨by omega, by omega⟩, u64_or_nat _ _ (by omega) (by omega), Nat.or_comm,
    nat_join (7 * k) _ _ (Nat.mul_mod_left _ _) hacc, Nat.add_comm]
theorem acc_step (acc k x : Nat) (hacc : acc < 2 ^ (7 * k)) : acc + x % 128 * 2 ^ (7 * k) < 2 ^ (7 * (k + 1)) := by
  have e : 2 ^ (7 * (k + 1)) = 128 * 2 ^ (7 * k) := by rw [Nat.mul_add, Nat.pow_add]; omega
  have h : x % 128 * 2 ^ (7 * k) ≤ 127 * 2 ^ (7 * k) := Nat.mul_le_mul_right _ (by omega)
  rw [e]; omega
theorem drop_cons_of (l : List UInt8) (k : Nat) (x : UInt8) (h : k < l.length) (hx : x = l[k]) : l.drop k = x :: l.drop (k + 1) := by
  rw [List.drop_eq_getElem_cons h, hx]

def RetGet (w : World) (l : List UInt8) (e : Ending) (w' : World) : Prop :=
  e = .returned (.tuple #[.int .u64 ((Var.get l).1 : Int), .int .i64 ((Var.get l).2.1 : Int), .int .i64 ((Var.get l).2.2 : Int)]) ∧ w = w'

set_option maxRecDepth 100000 in
theorem varGet (w : World) (B n c : Nat) (A : Option Addr) (l : List UInt8) (hr : Rd w B 1 A n c (bytesV l)) :
    Calls Tryd.prog 55 #[.slice A n c] w (RetGet w l) := by
  obtain rfl : n = l.length := by have := hr.len; rw [bytesV_length] at this; omega
  have hmax : l.length ≤ 9223372036854775807 := by have h1 := hr.le; have h2 := hr.cap; unfold maxLen at h2; omega
  go_enter Tryd.func55, Tryd.ntmps55
  go_wp2
  go_loop [5, 10] (fun nv iv => ∃ (k acc : Nat), k ≤ l.length ∧ k ≤ 9 ∧ iv = .int .i64 k ∧ nv = .int .u64 acc ∧ Hid (Var.get l = Var.getL k acc (l.drop k)) ∧ Hid (acc < 2 ^ (7 * k))) (fun _ i => l.length - (intOf i).toNat)
  case atStart => exact ⟨0, 0, by omega, by omega, rfl, rfl, hide rfl, hide (by decide)⟩
  case round =>
    obtain ⟨k, acc, hk, hk9, rfl, rfl, hg, hacc⟩ := hrel
    by_cases hlt : k < l.length
    · obtain ⟨b, off, rfl, _, hc⟩ := hr.cellAt (k := k) (by rw [bytesV_length]; exact hlt)
      obtain ⟨x, hx⟩ : ∃ x : UInt8, x = l[k] := ⟨_, rfl⟩
      have hc' : w.cell? ⟨b, off + k, none⟩ = some (.int .u8 (x.toNat : Int)) := by rw [hc, hx]; simp [bytesV, byteV]
      have hx256 := x.toNat_lt
      clear hc
      have HD := hide (drop_cons_of l k x hlt hx)
      clear hx
      by_cases h9 : k = 9 ∧ 1 < x.toNat
      · obtain ⟨rfl, h1⟩ := h9
        have t2 : decide ((1 : Int) < (x.toNat : Int)) = true := by simp; omega
        have hv : Var.get l = (0, 0, 31) := by rw [hg.out, HD.out]; simp [Var.getL, h1]
        have HV := hide hv
        clear hv
        go_wp2
        go_ret3
        exact ⟨by rw [HV.out]; rfl, rfl⟩
      · by_cases hc : x.toNat < 128
        · have t3 : decide ((x.toNat : Int) < 128) = true := by simp; omega
          have hor := hide (or_step acc k x.toNat hk9 hx256 hacc.out (by intro h; omega))
          by_cases h0 : x.toNat = 0 ∧ 0 < k
          · have hv : Var.get l = (0, 0, 31) := by
              rw [hg.out, HD.out]
              simp only [Var.getL]
              rw [if_neg h9, if_pos hc, if_pos h0]
            have HV := hide hv
            clear hv
            have t4 : ((x.toNat : Int) == 0) = true := by simp; omega
            have t5 : decide (0 < k) = true := by simp; omega
            by_cases hk9' : k = 9
            · subst hk9'
              have t2 : decide ((1 : Int) < (x.toNat : Int)) = false := by simp; omega
              clear h9 h0
              go_wp2
              go_ret3
              exact ⟨by rw [HV.out]; rfl, rfl⟩
            · have t1 : ((k : Int) == 9) = false := by simp; omega
              clear h9 h0
              go_wp2
              go_ret3
              exact ⟨by rw [HV.out]; rfl, rfl⟩
          · have hv : Var.get l = (acc + x.toNat % 128 * 2 ^ (7 * k), k + 1, 0) := by
              rw [hg.out, HD.out]
              simp only [Var.getL]
              rw [if_neg h9, if_pos hc, if_neg h0]
            have HV := hide hv
            clear hv
            by_cases hx0 : x.toNat = 0
            · obtain rfl : k = 0 := by omega
              simp only [Nat.add_zero] at hc'
              have t4 : ((x.toNat : Int) == 0) = true := by simp; omega
              have t1 : (((0 : Nat) : Int) == 9) = false := by decide
              clear h9 h0 hx0
              go_wp2
              go_ret3
              exact ⟨by rw [HV.out]; have h3 := hor.out; simp only [Nat.mul_zero, Int.pow_zero, Int.mul_one] at h3; simp only [Nat.mul_zero]; rw [← h3]; rfl, rfl⟩
            · have t4 : ((x.toNat : Int) == 0) = false := by simp; omega
              by_cases hk9' : k = 9
              · subst hk9'
                have t2 : decide ((1 : Int) < (x.toNat : Int)) = false := by simp; omega
                clear h9 h0
                go_wp2
                go_ret3
                exact ⟨by rw [HV.out, ← hor.out]; rfl, rfl⟩
              · have t1 : ((k : Int) == 9) = false := by simp; omega
                clear h9 h0
                go_wp2
                go_ret3
                exact ⟨by rw [HV.out, ← hor.out]; rfl, rfl⟩
        · have t3 : decide ((x.toNat : Int) < 128) = false := by simp; omega
          have t1 : ((k : Int) == 9) = false := by simp; omega
          have hor := hide (or_step acc k x.toNat hk9 hx256 hacc.out (by intro h; omega))
          have hv : Var.get l = Var.getL (k + 1) (acc + x.toNat % 128 * 2 ^ (7 * k)) (l.drop (k + 1)) := by
            rw [hg.out, HD.out]
            simp only [Var.getL]
            rw [if_neg h9, if_neg hc]
          have HV := hide hv
          have hk8 : k + 1 ≤ 9 := by omega
          clear hv h9
          go_wp2
          go_round
          case rel => exact ⟨k + 1, _, by omega, by omega, by go_num, by rw [← hor.out], hide HV.out, hide (acc_step _ _ _ hacc.out)⟩
          case measure => simp [intOf]; omega
    · have hv : Var.get l = (0, 0, 30) := by rw [hg.out, List.drop_eq_nil_of_le (by omega)]; rfl
      have HV := hide hv
      clear hv
      go_wp2
      go_ret3
      exact ⟨by rw [HV.out]; rfl, rfl⟩
end

section
open Go.RowKit

/-! ### all but one block is as it was -/
structure Oth (b : Nat) (w w' : World) : Prop where
  os : w'.os = w.os
  tape : w'.tape = w.tape
  output : w'.output = w.output
  size : w.heap.size ≤ w'.heap.size
  block : ∀ k, k < w.heap.size → k ≠ b → w'.heap[k]? = w.heap[k]?
theorem Oth.refl (b : Nat) (w : World) : Oth b w w := ⟨rfl, rfl, rfl, Nat.le_refl _, fun _ _ _ => rfl⟩
theorem Oth.trans {b : Nat} {u v w : World} (h : Oth b u v) (k : Oth b v w) : Oth b u w :=
  ⟨k.os.trans h.os, k.tape.trans h.tape, k.output.trans h.output, Nat.le_trans h.size k.size, fun i hi hne => (k.block i (Nat.lt_of_lt_of_le hi h.size) hne).trans (h.block i hi hne)⟩
theorem Oth.of {b : Nat} {w w' : World} (h : Below w.heap.size w w') : Oth b w w' := ⟨h.os, h.tape, h.output, h.size, fun k hk _ => h.block k hk⟩
theorem Oth.drew {b : Nat} {u w : World} (h : Oth b u w) : Oth b u w.drew := ⟨h.os, h.tape, h.output, h.size, h.block⟩
theorem Oth.alloc {b : Nat} {u w : World} (h : Oth b u w) (o : Obj) : Oth b u (w.alloc o) := h.trans (.of ((Below.refl _ _).alloc (Nat.le_refl _) o))
theorem Oth.set {b : Nat} {u w : World} (h : Oth b u w) (j : Nat) (x : Value) : Oth b u (w.setCell ⟨b, j, none⟩ x) :=
  h.trans ⟨rfl, rfl, rfl, by simp [World.setCell], fun k _ hne => Below.heap_setCell _ _ _ _ hne⟩
/-- a store into a block that is new -/
theorem Oth.setNew {b : Nat} {u w : World} (h : Oth b u w) {p : Addr} (hp : u.heap.size ≤ p.block) (x : Value) : Oth b u (w.setCell p x) :=
  ⟨h.os, h.tape, h.output, by simp [World.setCell]; exact h.size, fun k hk hne => (Below.heap_setCell _ _ _ _ (by omega)).trans (h.block k hk hne)⟩
theorem Oth.cell {b : Nat} {w w' : World} (h : Oth b w w') {p : Addr} (hp : p.block < w.heap.size) (hne : p.block ≠ b) : w'.cell? p = w.cell? p := World.cell?_of_block (w := w) (h.block p.block hp hne)
theorem Oth.frozen {b : Nat} {w w' : World} (h : Oth b w w') {p : Addr} (hp : p.block < w.heap.size) (hne : p.block ≠ b) : w'.frozen? p = w.frozen? p := World.frozen?_of_block (w := w) (h.block p.block hp hne)
theorem Oth.below {b : Nat} {w w' : World} (h : Oth b w w') (hb : b ≤ w.heap.size) : Below b w w' := ⟨h.os, h.tape, h.output, h.size, fun k hk => h.block k (by omega) (by omega)⟩
theorem own_oth {base b : Nat} {w w' : World} {v : Value} {n : Nat} {xs : List Value} {e : TypeId} {sz : Nat} (h : w.ownsRow base e sz v n xs) (ho : Oth b w w') (hb : b < base) : w'.ownsRow base e sz v n xs := by
  refine h.kept (row := some b) ⟨ho.os, ho.tape, ho.output, ho.size, fun k hk hne => ho.block k hk (fun q => hne (by rw [q]))⟩ ?_
  cases hv : v.ownBlock with
  | none => exact .inl rfl
  | some k =>
    refine .inr fun q => ?_
    have := (h.lt k hv).1
    injection q with q
    omega

/-! ### a cut of bytes -/
theorem rd_lo {w : World} {B c : Nat} {A : Option Addr} {l : List UInt8} (hr : Rd w B 1 A l.length c (bytesV l)) {lo : Nat} (hlo : lo ≤ l.length) : ∃ A2 l2, l2 = l.drop lo ∧
    (∀ k W, (Instr.sliceAt 25 (.slice A l.length c) (some (.int k (lo : Int))) none none).run Tryd.prog W = .ok (.slice A2 l2.length (c - lo)) W) ∧
    (∀ k W, (Instr.slice 25 (.slice A l.length c) (some (.int k (lo : Int))) none none).run Tryd.prog W = .ok (.slice A2 l2.length (c - lo)) W) ∧ Rd w B 1 A2 l2.length (c - lo) (bytesV l2) := by
  refine ⟨(if c = lo then A else A.map (·.add (lo * 1))), l.drop lo, rfl, fun k W => ?_, fun k W => ?_, ?_⟩
  · rw [List.length_drop]; exact cut_lo tyBytes A l.length c k (lo : Int) lo rfl hlo hr.le W
  · rw [List.length_drop]; exact run_cut_lo tyBytes A l.length c k (lo : Int) lo rfl hlo hr.le W
  · have := hr.cut hlo (Nat.le_refl _)
    rw [List.length_drop]
    rw [List.take_of_length_le (by simp [bytesV])] at this
    simpa [bytesV, List.map_drop] using this

/-! ### a reader's box -/
structure RdrA (w : World) (b : Nat) (A : Option Addr) (c : Nat) (l : List UInt8) (e : Nat) : Prop where
  c0 : w.cell? ⟨b, 0, none⟩ = some (.slice A l.length c)
  c1 : w.cell? ⟨b, 1, none⟩ = some (.int .i64 (e : Int))
  f0 : w.frozen? ⟨b, 0, none⟩ = false
  f1 : w.frozen? ⟨b, 1, none⟩ = false
  z : b < w.heap.size
  rd : Rd w b 1 A l.length c (bytesV l)
section
variable {w w' : World} {b c : Nat} {A : Option Addr} {l : List UInt8} {e : Nat}
theorem RdrA.keep (h : RdrA w b A c l e) (hb : Below w.heap.size w w') : RdrA w' b A c l e where
  c0 := (hb.cell (p := ⟨b, 0, none⟩) h.z).trans h.c0
  c1 := (hb.cell (p := ⟨b, 1, none⟩) h.z).trans h.c1
  f0 := (hb.frozen (p := ⟨b, 0, none⟩) h.z).trans h.f0
  f1 := (hb.frozen (p := ⟨b, 1, none⟩) h.z).trans h.f1
  z := Nat.lt_of_lt_of_le h.z hb.size
  rd := h.rd.below' hb (Nat.le_of_lt h.z)
/-- a store elsewhere, not below it -/
theorem RdrA.elsewhere (h : RdrA w b A c l e) {p : Addr} (hp : b < p.block) (x : Value) : RdrA (w.setCell p x) b A c l e := by
  have hne : ∀ j, (⟨b, j, none⟩ : Addr) ≠ p := fun j q => by subst q; exact Nat.lt_irrefl _ hp
  have hB : Below p.block w (w.setCell p x) := (Below.refl _ _).setCell (Nat.le_refl _) x
  exact ⟨(hB.cell (p := ⟨b, 0, none⟩) hp).trans h.c0, (hB.cell (p := ⟨b, 1, none⟩) hp).trans h.c1, (hB.frozen (p := ⟨b, 0, none⟩) hp).trans h.f0, (hB.frozen (p := ⟨b, 1, none⟩) hp).trans h.f1,
    by simpa using h.z, h.rd.below' hB (Nat.le_of_lt hp)⟩
theorem RdrA.set0 (h : RdrA w b A c l e) {A2 : Option Addr} {c2 : Nat} {l2 : List UInt8} (hr : Rd w b 1 A2 l2.length c2 (bytesV l2)) : RdrA (w.setCell ⟨b, 0, none⟩ (.slice A2 l2.length c2)) b A2 c2 l2 e := by
  have c0 := h.c0
  have c1 := h.c1
  have f0 := h.f0
  have f1 := h.f1
  exact ⟨by go_simp, by go_simp, by go_simp, by go_simp, by simpa using h.z, hr.below ((Below.refl b w).setCell (p := ⟨b, 0, none⟩) (Nat.le_refl _) _)⟩
theorem RdrA.set1 (h : RdrA w b A c l e) (e2 : Nat) : RdrA (w.setCell ⟨b, 1, none⟩ (.int .i64 (e2 : Int))) b A c l e2 := by
  have c0 := h.c0
  have c1 := h.c1
  have f0 := h.f0
  have f1 := h.f1
  exact ⟨by go_simp, by go_simp, by go_simp, by go_simp, by simpa using h.z, h.rd.below ((Below.refl b w).setCell (p := ⟨b, 1, none⟩) (Nat.le_refl _) _)⟩
end
/-! ### plain: numbers, texts, fields -/
abbrev RdN := Nat × List UInt8 × Nat
def num (most : Nat) (l : List UInt8) (e : Nat) : RdN :=
  if e ≠ 0 then (0, l, e) else if (Var.get l).2.2 ≠ 0 then (0, l, (Var.get l).2.2) else if most < (Var.get l).1 then (0, l, 40) else ((Var.get l).1, l.drop (Var.get l).2.1, 0)
theorem num_len (most : Nat) (l : List UInt8) (e : Nat) : (num most l e).2.1.length ≤ l.length := by
  unfold num; split
  · simp
  · split
    · simp
    · split
      · simp
      · simp
/-- a text of at most so many bytes: the size that was read, the bytes behind it -/
def textE (r : RdN) : Nat := if r.2.2 = 0 ∧ r.2.1.length < r.1 then 30 else r.2.2
def textS (r : RdN) : ByteArray := if textE r = 0 then ⟨(r.2.1.take r.1).toArray⟩ else ByteArray.empty
def textL (r : RdN) : List UInt8 := if textE r = 0 then r.2.1.drop r.1 else r.2.1
def rdF (l : List UInt8) (e : Nat) : Fd × List UInt8 × Nat :=
  let a := num 4294967295 l e
  let s := num 16 a.2.1 a.2.2
  let k := num 255 (textL s) (textE s)
  let q := num 1 k.2.1 k.2.2
  (⟨UInt32.ofNat a.1, textS s, UInt8.ofNat k.1, decide (q.1 = 1)⟩, q.2.1, q.2.2)
def rdFs : Nat → List UInt8 → Nat → List Fd → List Fd × List UInt8 × Nat
  | 0, l, e, acc => (acc, l, e)
  | n + 1, l, e, acc => if e ≠ 0 then (acc, l, e) else rdFs n (rdF l e).2.1 (rdF l e).2.2 (acc ++ [(rdF l e).1])
structure RdS where
  id : UInt32
  fs : List Fd
  left : List UInt8
  err : Nat
def rdS (l : List UInt8) (e : Nat) : RdS :=
  let a := num 4294967295 l e
  let n := num 8 a.2.1 a.2.2
  let r := rdFs n.1 n.2.1 n.2.2 []
  ⟨UInt32.ofNat a.1, r.1, r.2.1, if r.2.2 = 0 then check (UInt32.ofNat a.1) r.1 else r.2.2⟩
end

section
open Go.RowKit

structure BoxN (w : World) (b : Nat) (cs : List Value) : Prop where
  cell : ∀ j v, cs[j]? = some v → w.cell? ⟨b, j, none⟩ = some v
  free : ∀ j, j < cs.length → w.frozen? ⟨b, j, none⟩ = false
  z : b < w.heap.size
section
variable {w w' : World} {b : Nat} {cs : List Value}
theorem boxN_new (w : World) (cs : Array Value) (t : TypeId) : BoxN (w.alloc (.cells cs t)) w.heap.size cs.toList := by
  have x := box_new w cs t
  exact ⟨fun j v h => x.cell j v (by simpa using h), fun j _ => x.free j, by rw [x.size]; omega⟩
theorem BoxN.keep (h : BoxN w b cs) {B : Nat} (hb : Below B w w') (hz : b < B) : BoxN w' b cs :=
  ⟨fun j v hj => (hb.cell (p := ⟨b, j, none⟩) hz).trans (h.cell j v hj), fun j hj => (hb.frozen (p := ⟨b, j, none⟩) hz).trans (h.free j hj), Nat.lt_of_lt_of_le h.z hb.size⟩
theorem BoxN.oth (h : BoxN w b cs) {b2 : Nat} (ho : Oth b2 w w') (hne : b ≠ b2) : BoxN w' b cs :=
  ⟨fun j v hj => (ho.cell (p := ⟨b, j, none⟩) h.z hne).trans (h.cell j v hj), fun j hj => (ho.frozen (p := ⟨b, j, none⟩) h.z hne).trans (h.free j hj), Nat.lt_of_lt_of_le h.z ho.size⟩
theorem BoxN.set (h : BoxN w b cs) {j : Nat} (x : Value) {u : Value} (hj : cs[j]? = some u) : BoxN (w.setCell ⟨b, j, none⟩ x) b (cs.set j x) := by
  have cu := h.cell j u hj
  have hjl : j < cs.length := (List.getElem?_eq_some_iff.1 hj).1
  refine ⟨fun i v hi => ?_, fun i hi => ?_, by simpa using h.z⟩
  · by_cases hij : j = i
    · subst hij
      have : v = x := by rw [List.getElem?_set_self hjl] at hi; exact (Option.some.inj hi).symm
      subst this
      go_simp
    · rw [List.getElem?_set_ne hij] at hi
      rw [World.cell?_setCell_other]
      · exact h.cell i v hi
      · intro q; injection q with _ q; exact hij q
  · have := h.free i (by simpa using hi)
    go_simp
theorem BoxN.else (h : BoxN w b cs) {p : Addr} (hp : p.block ≠ b) (x : Value) : BoxN (w.setCell p x) b cs := by
  refine ⟨fun i v hi => ?_, fun i hi => ?_, by simpa using h.z⟩
  · rw [World.cell?_setCell_other]
    · exact h.cell i v hi
    · intro q; exact hp (by rw [q])
  · have := h.free i hi
    go_simp
end
theorem RdrA.keepB {w w' : World} {b c : Nat} {A : Option Addr} {l : List UInt8} {e B : Nat} (h : RdrA w b A c l e) (hb : Below B w w') (hz : b < B) : RdrA w' b A c l e where
  c0 := (hb.cell (p := ⟨b, 0, none⟩) hz).trans h.c0
  c1 := (hb.cell (p := ⟨b, 1, none⟩) hz).trans h.c1
  f0 := (hb.frozen (p := ⟨b, 0, none⟩) hz).trans h.f0
  f1 := (hb.frozen (p := ⟨b, 1, none⟩) hz).trans h.f1
  z := Nat.lt_of_lt_of_le h.z hb.size
  rd := h.rd.below' hb (Nat.le_of_lt hz)
theorem Oth.belowB {b B : Nat} {w w' : World} (h : Oth b w w') (hB : B ≤ b) (hz : B ≤ w.heap.size) : Below B w w' := ⟨h.os, h.tape, h.output, h.size, fun k hk => h.block k (by omega) (by omega)⟩

/-! ### what Unpack and the document's Schema give -/
def uId (l : List UInt8) : UInt32 := if (rdS l 0).err = 0 then (rdS l 0).id else 0
def uFs (l : List UInt8) : List Fd := if (rdS l 0).err = 0 then (rdS l 0).fs else []
def uLeft (l : List UInt8) : List UInt8 := if (rdS l 0).err = 0 then (rdS l 0).left else []
def UnpEnd (w : World) (l : List UInt8) (e : Ending) (w' : World) : Prop :=
  ∃ F fc A c, e = .returned (.tuple #[.agg #[.int .u32 ((uId l).toNat : Int), .slice F (uFs l).length fc], .slice A (uLeft l).length c, .int .i64 ((rdS l 0).err : Int)]) ∧
    Rd w' w'.heap.size 4 F (uFs l).length fc (fdsV (uFs l)) ∧ Rd w' w'.heap.size 1 A (uLeft l).length c (bytesV (uLeft l)) ∧ Below w.heap.size w w'
theorem results_cell_tmp2 {fn : Func} {p u u2 : Tmp} {ty : TypeId} (h : fn.results = #[.cell p ty, .tmp u, .tmp u2]) (tmps : Array Value) (P : Program) (w : World) :
    (results fn tmps).run P w =
      ((asAddr (tmps.getD p undef)).run P w).andThen fun a w₁ => ((loadVar ty a).run P w₁).andThen fun v w₂ => .ok (.tuple #[v, tmps.getD u undef, tmps.getD u2 undef]) w₂ := by
  simp only [results, h]
  simp [Sem.run_bind, Result.andThen]
theorem results_cell {fn : Func} {p : Tmp} {ty : TypeId} (h : fn.results = #[.cell p ty]) (tmps : Array Value) (P : Program) (w : World) :
    (results fn tmps).run P w =
      ((asAddr (tmps.getD p undef)).run P w).andThen fun a w₁ => (loadVar ty a).run P w₁ := by
  simp only [results, h]
  simp [Sem.run_bind, Result.andThen]
/-! ### what holds at each round -/
section
variable {w0 wr w7 : World} {B0 br bs c fc e : Nat} {uid : UInt32} {A fA : Option Addr} {l : List UInt8} {fs : List Fd}
end
theorem rdF_of {l l1 l3 l4 : List UInt8} {e1 e3 e4 q : Nat} {fid : UInt32} {kd : UInt8} {r : RdN} (h1 : num 4294967295 l 0 = (fid.toNat, l1, e1)) (h2 : num 16 l1 e1 = r) (h3 : num 255 (textL r) (textE r) = (kd.toNat, l3, e3)) (h4 : num 1 l3 e3 = (q, l4, e4)) :
    rdF l 0 = (⟨fid, textS r, kd, decide (q = 1)⟩, l4, e4) := by
  unfold rdF
  simp only [h1, h2, h3, h4, UInt32.ofNat_toNat, UInt8.ofNat_toNat]
theorem rdS_of {l l1 l2 l' : List UInt8} {er e1 e2 e' N : Nat} {id : UInt32} {fs : List Fd} (hA : (id.toNat, l1, e1) = num 4294967295 l er) (hN : (N, l2, e2) = num 8 l1 e1) (hQ : rdFs N l2 e2 [] = (fs, l', e')) :
    rdS l er = ⟨id, fs, l', if e' = 0 then check id fs else e'⟩ := by
  unfold rdS
  simp only [← hA, ← hN, hQ, UInt32.ofNat_toNat]
theorem rdFs_end {m : Nat} {l : List UInt8} {e : Nat} {fs : List Fd} (h : m = 0 ∨ e ≠ 0) : rdFs m l e fs = (fs, l, e) := by
  cases m with
  | zero => rfl
  | succ m => unfold rdFs; rw [if_pos (by omega)]
theorem rdFs_on {m : Nat} {l : List UInt8} {fs : List Fd} : rdFs (m + 1) l 0 fs = rdFs m (rdF l 0).2.1 (rdF l 0).2.2 (fs ++ [(rdF l 0).1]) := by
  rw [rdFs, if_neg (by simp)]
/-- what the document's Schema leaves -/
def SchEnd (w : World) (b : Nat) (r : RdS) (e : Ending) (w' : World) : Prop :=
  ∃ F fc, e = .returned (.agg #[.int .u32 (r.id.toNat : Int), .slice F r.fs.length fc]) ∧ Rd w' w'.heap.size 4 F r.fs.length fc (fdsV r.fs) ∧ (∃ A c, RdrA w' b A c r.left r.err) ∧ Oth b w w'
/-- what reading a text leaves -/
def TextEnd (w : World) (b : Nat) (r : RdN) (e : Ending) (w' : World) : Prop :=
  e = .returned (.string (textS r)) ∧ (∃ A c, RdrA w' b A c (textL r) (textE r)) ∧ Oth b w w'
theorem text_e {r : RdN} (h : r.2.2 ≠ 0) : textE r = r.2.2 ∧ textS r = ByteArray.empty ∧ textL r = r.2.1 := by
  have h1 : textE r = r.2.2 := by unfold textE; rw [if_neg (by omega)]
  refine ⟨h1, ?_, ?_⟩
  · unfold textS; rw [if_neg (by omega)]
  · unfold textL; rw [if_neg (by omega)]
theorem text_30 {r : RdN} (h : r.2.2 = 0) (h2 : r.2.1.length < r.1) : textE r = 30 ∧ textS r = ByteArray.empty ∧ textL r = r.2.1 := by
  have h1 : textE r = 30 := by unfold textE; rw [if_pos ⟨h, h2⟩]
  refine ⟨h1, ?_, ?_⟩
  · unfold textS; rw [if_neg (by omega)]
  · unfold textL; rw [if_neg (by omega)]
theorem text_0 {r : RdN} (h : r.2.2 = 0) (h2 : ¬ r.2.1.length < r.1) : textE r = 0 ∧ textS r = ⟨(r.2.1.take r.1).toArray⟩ ∧ textL r = r.2.1.drop r.1 := by
  have h1 : textE r = 0 := by unfold textE; rw [if_neg (by omega), h]
  refine ⟨h1, ?_, ?_⟩
  · unfold textS; rw [if_pos h1]
  · unfold textL; rw [if_pos h1]
/-- the beginning of bytes, as a text -/
theorem rd_hi {w : World} {B c : Nat} {A : Option Addr} {l : List UInt8} (hr : Rd w B 1 A l.length c (bytesV l)) {hi : Nat} (hhi : hi ≤ l.length) :
    (∀ k W, (Instr.sliceAt 25 (.slice A l.length c) none (some (.int k (hi : Int))) none).run Tryd.prog W = .ok (.slice A hi c) W) ∧
    (∀ k W, (Instr.slice 25 (.slice A l.length c) none (some (.int k (hi : Int))) none).run Tryd.prog W = .ok (.slice A hi c) W) ∧
    Rd w B 1 A hi c (bytesV (l.take hi)) := by
  have hc : hi ≤ c := Nat.le_trans hhi hr.le
  refine ⟨fun k W => cut_hi tyBytes A l.length c k (hi : Int) hi rfl hc W, fun k W => run_cut_hi tyBytes A l.length c k (hi : Int) hi rfl hc W, ?_⟩
  have := hr.pre hhi
  simpa [bytesV, List.map_take] using this
end

section
open Go.RowKit

/-! ### the first place -/
section
variable {α : Type} [Inhabited α] {p : α → Bool} {l : List α}
end

/-! ### rows of structs -/
theorem flat_get {α : Type} (enc : α → List Value) (k : Nat) (hk : ∀ a, (enc a).length = k) : ∀ (l : List α) (i j : Nat) (hi : i < l.length), j < k → (l.flatMap enc)[i * k + j]? = (enc l[i])[j]?
  | a :: l, 0, j, _, hj => by
    rw [List.flatMap_cons, List.getElem?_append_left (by rw [hk]; omega)]
    simp
  | a :: l, i + 1, j, hi, hj => by
    rw [List.flatMap_cons, List.getElem?_append_right (by rw [hk]; rw [Nat.succ_mul]; omega), hk]
    rw [show (i + 1) * k + j - k = i * k + j by rw [Nat.succ_mul]; omega]
    exact flat_get enc k hk l i j (by simpa using hi) hj
/-! ### snapshots, schemas -/
structure Sn where
  id : UInt64
  par : UInt64
  seq : UInt64
  off : UInt64
  tim : UInt64
  sch : UInt32
  ms : List ByteArray
instance : Inhabited Sn := ⟨⟨0, 0, 0, 0, 0, 0, []⟩⟩
structure Nl where
  p : Sn
  A : Option Addr
  c : Nat
instance : Inhabited Nl := ⟨⟨default, none, 0⟩⟩
structure Sl where
  id : UInt32
  fs : List Fd
  A : Option Addr
  c : Nat
instance : Inhabited Sl := ⟨⟨0, [], none, 0⟩⟩
def nlV (s : Nl) : List Value := [.int .u64 (s.p.id.toNat : Int), .int .u64 (s.p.par.toNat : Int), .int .u64 (s.p.seq.toNat : Int), .int .u64 (s.p.off.toNat : Int), .int .u64 (s.p.tim.toNat : Int), .int .u32 (s.p.sch.toNat : Int), .slice s.A s.p.ms.length s.c]
def nlsV (l : List Nl) : List Value := l.flatMap nlV
def slV (s : Sl) : List Value := [.int .u32 (s.id.toNat : Int), .slice s.A s.fs.length s.c]
def slsV (l : List Sl) : List Value := l.flatMap slV
theorem nlV_length (s : Nl) : (nlV s).length = 7 := rfl
theorem nlV_one (s : Nl) : ∀ u ∈ nlV s, u.oneCell' = true := by
  intro u hu
  simp [nlV] at hu
  rcases hu with rfl | rfl | rfl | rfl | rfl | rfl | rfl <;> rfl
theorem slV_one (s : Sl) : ∀ u ∈ slV s, u.oneCell' = true := by
  intro u hu
  simp [slV] at hu
  rcases hu with rfl | rfl <;> rfl
section
variable {w w' : World} {B n c : Nat} {A : Option Addr}
end
/-- a table's rows -/
structure TabR (w : World) (B : Nat) (sA : Option Addr) (sc : Nat) (ss : List Sl) (nA : Option Addr) (nc : Nat) (ns : List Nl) : Prop where
  srow : Rd w B 2 sA ss.length sc (slsV ss)
  sin : ∀ s ∈ ss, Rd w B 4 s.A s.fs.length s.c (fdsV s.fs)
  nrow : Rd w B 7 nA ns.length nc (nlsV ns)
  nin : ∀ s ∈ ns, Rd w B 1 s.A s.p.ms.length s.c (strsV s.p.ms)
section
variable {w w' : World} {B B' sc nc : Nat} {sA nA : Option Addr} {ss : List Sl} {ns : List Nl}
theorem TabR.below (h : TabR w B sA sc ss nA nc ns) (hb : Below B w w') : TabR w' B sA sc ss nA nc ns := ⟨h.srow.below hb, fun s hs => (h.sin s hs).below hb, h.nrow.below hb, fun s hs => (h.nin s hs).below hb⟩
theorem TabR.more (h : TabR w B sA sc ss nA nc ns) (hB : B ≤ B') : TabR w B' sA sc ss nA nc ns := ⟨h.srow.more hB, fun s hs => (h.sin s hs).more hB, h.nrow.more hB, fun s hs => (h.nin s hs).more hB⟩
theorem TabR.later (h : TabR w w.heap.size sA sc ss nA nc ns) (hb : Below w.heap.size w w') : TabR w' w'.heap.size sA sc ss nA nc ns := (h.below hb).more hb.size
theorem TabR.drew (h : TabR w B sA sc ss nA nc ns) : TabR w.drew B sA sc ss nA nc ns := ⟨h.srow.drew, fun s hs => (h.sin s hs).drew, h.nrow.drew, fun s hs => (h.nin s hs).drew⟩
theorem getD_mem {α : Type} [Inhabited α] {l : List α} {i : Nat} (hi : i < l.length) : l.getD i default ∈ l := by
  simp [List.getD, hi]
theorem TabR.s_at (h : TabR w B sA sc ss nA nc ns) {i : Nat} (hi : i < ss.length) : Rd w B 4 (ss.getD i default).A (ss.getD i default).fs.length (ss.getD i default).c (fdsV (ss.getD i default).fs) := h.sin _ (getD_mem hi)
theorem TabR.n_at (h : TabR w B sA sc ss nA nc ns) {i : Nat} (hi : i < ns.length) : Rd w B 1 (ns.getD i default).A (ns.getD i default).p.ms.length (ns.getD i default).c (strsV (ns.getD i default).p.ms) := h.nin _ (getD_mem hi)
end
theorem strsV_one (l : List ByteArray) : ∀ u ∈ strsV l, u.oneCell' = true := by
  intro u hu
  simp [strsV] at hu
  obtain ⟨a, _, rfl⟩ := hu
  rfl
end

section
open Go.RowKit

/-- two fields: the same? -/
def fdEq (f g : Fd) : Bool := ((f.id.toNat : Int) == (g.id.toNat : Int)) && ((f.name.toList == g.name.toList) && (((f.kind.toNat : Int) == (g.kind.toNat : Int)) && (f.need == g.need)))
end
end Go.Proofs.YtbcnekaagkdmeaaDoor
