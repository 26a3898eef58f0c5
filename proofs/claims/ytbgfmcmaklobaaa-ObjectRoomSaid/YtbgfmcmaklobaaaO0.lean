/- WHAT SERVES THE TABLES' STATEMENTS, part 0: E0, E1, EnRd, EnP, EnC, EnNm, EnM, EnXW. No statement of the seat is proved here. -/
import Derived.WalkKit
import Derived.WalkSpells
import Derived.WalkLawsBesides
import Derived.Deep.Draws
import Derived.Deep.AppendLies
import Derived.Maps.AppendAt
import Derived.BigQuiet
import Derived.Deep.QuietTactic
import Derived.Deep.RegionWith
import Derived.Handy
import Derived.Lib.DecodeN
import Derived.Lib.RuneCountTail
import Derived.Still
import Derived.StillTail
import Derived.Laws.ResultCell
import Derived.Deep.OwnRows
import Derived.Deep.CutRange
import Derived.Deep.RegionHeld3
import Init.Data.List.Lemmas
import Derived.Test.YtbgfmcmaklobaaaProg
import Derived.Lib.SliceRun
import Derived.Deep.RegionLaw
import Derived.Laws.IdiomRangeMap
import Derived.ProofKit
import Derived.OpenShut
import Derived.ShutString
import Derived.ChangeOld
import Derived.SizedLaws
import Derived.Below
import Derived.Deep.Slices
import Derived.Deep.Fields
import Derived.ChangeSame
import Derived.Lib.SmallJoins
import Derived.Lib.AppendStr
import Init.Data.BitVec.Lemmas
import Derived.Maps.OwnSet
import Derived.Maps.Views
import Derived.StringKeys
namespace Go.Proofs.Ytbgfmcmaklobaaa

section
section
open Go.RowKit

theorem hide {p : Prop} (h : p) : Hid p := h

/-! ### Slices that read a list of cells -/
structure Rd (w : World) (B sz : Nat) (A : Option Addr) (n c : Nat) (xs : List Value) : Prop where
  len : xs.length = n * sz
  le : n ≤ c
  cap : c ≤ maxLen
  at_ : 0 < n → ∃ b off, A = some ⟨b, off, none⟩ ∧ b < B ∧ ∀ j u, xs[j]? = some u → w.cell? ⟨b, off + j, none⟩ = some u

section
variable {w w' : World} {B B' sz n c : Nat} {A : Option Addr} {xs : List Value}

theorem Rd.keep (h : Rd w B sz A n c xs) (hk : ∀ p : Addr, p.block < B → w'.cell? p = w.cell? p) : Rd w' B sz A n c xs :=
  ⟨h.len, h.le, h.cap, fun hn => by
    obtain ⟨b, off, e, hb, hc⟩ := h.at_ hn
    exact ⟨b, off, e, hb, fun j u hu => (hk ⟨b, off + j, none⟩ hb).trans (hc j u hu)⟩⟩
theorem Rd.more (h : Rd w B sz A n c xs) (hB : B ≤ B') : Rd w B' sz A n c xs :=
  ⟨h.len, h.le, h.cap, fun hn => by
    obtain ⟨b, off, e, hb, hc⟩ := h.at_ hn
    exact ⟨b, off, e, Nat.lt_of_lt_of_le hb hB, hc⟩⟩
theorem Rd.below (h : Rd w B sz A n c xs) (hb : Below B w w') : Rd w' B sz A n c xs := h.keep fun _ hp => hb.cell hp
theorem Rd.below' (h : Rd w B sz A n c xs) (hb : Below B' w w') (hB : B ≤ B') : Rd w' B sz A n c xs := h.keep fun _ hp => hb.cell (Nat.lt_of_lt_of_le hp hB)
theorem Rd.alloc (h : Rd w B sz A n c xs) (hB : B ≤ w.heap.size) (o : Obj) : Rd (w.alloc o) B sz A n c xs := h.below ((Below.refl B w).alloc hB o)
theorem Rd.drew (h : Rd w B sz A n c xs) : Rd w.drew B sz A n c xs := h.keep fun _ _ => rfl
theorem Rd.cellAt (h : Rd w B sz A n c xs) {k : Nat} (hk : k < xs.length) : ∃ b off, A = some ⟨b, off, none⟩ ∧ b < B ∧ w.cell? ⟨b, off + k, none⟩ = some xs[k] := by
  have hn : 0 < n := by
    rcases Nat.eq_zero_or_pos n with h0 | h0
    · have := h.len; rw [h0] at this; omega
    · exact h0
  obtain ⟨b, off, e, hb, hc⟩ := h.at_ hn
  exact ⟨b, off, e, hb, hc k _ (List.getElem?_eq_getElem hk)⟩
theorem Rd.nil (w : World) (B sz : Nat) : Rd w B sz none 0 0 [] := ⟨by simp, Nat.le_refl _, Nat.zero_le _, fun h => absurd h (by omega)⟩
theorem Rd.of_own {base : Nat} {e : TypeId} {v : Value} (h : w.ownsRow base e sz v n xs) : ∃ A c, v = .slice A n c ∧ Rd w w.heap.size sz A n c xs := by
  rcases h.2 with ⟨rfl, rfl⟩ | ⟨g, cap, cur, rfl, hb, hg, hnc, hm, hcur, htake⟩
  · have hx : xs = [] := List.eq_nil_of_length_eq_zero (by simpa using h.1)
    subst hx
    exact ⟨none, 0, rfl, Rd.nil _ _ _⟩
  · refine ⟨some ⟨g, 0, none⟩, cap, rfl, h.1, hnc, hm, fun _ => ⟨g, 0, rfl, (Array.getElem?_eq_some_iff.1 hg).1, fun j u hu => ?_⟩⟩
    have := World.ownsRow.cells (w := w) h (g := g) rfl j u hu
    simpa [Addr.add_lit] using this
/-- a literal's block -/
theorem Rd.lit (w : World) (e : TypeId) (cs : Array Value) (hl : cs.size = n * sz) (hm : n ≤ maxLen) :
    Rd (w.alloc (.cells cs e)) (w.heap.size + 1) sz (some ⟨w.heap.size, 0, none⟩) n n cs.toList :=
  ⟨by simpa using hl, Nat.le_refl _, hm, fun _ => ⟨w.heap.size, 0, rfl, by omega, fun j u hu => by
    rw [cell_of_row _ _ _ cs e (0, 0) (heap_alloc_new w _)]
    simpa using hu⟩⟩
/-- a beginning 's[:hi]' -/
theorem Rd.pre (h : Rd w B sz A n c xs) {hi : Nat} (h2 : hi ≤ n) : Rd w B sz A hi c (xs.take (hi * sz)) :=
  ⟨by rw [List.length_take, h.len]; exact Nat.min_eq_left (Nat.mul_le_mul_right _ h2), Nat.le_trans h2 h.le, h.cap, fun hn => by
    obtain ⟨b, off, e, hb, hc⟩ := h.at_ (by omega)
    refine ⟨b, off, e, hb, fun j u hu => hc j u ?_⟩
    have hj : j < hi * sz := by
      have := (List.getElem?_eq_some_iff.1 hu).1
      simp at this
      omega
    rwa [List.getElem?_take, if_pos hj] at hu⟩
/-- a cut 's[lo:hi]' -/
theorem Rd.cut (h : Rd w B sz A n c xs) {lo hi : Nat} (h1 : lo ≤ hi) (h2 : hi ≤ n) :
    Rd w B sz (if c = lo then A else A.map (·.add (lo * sz))) (hi - lo) (c - lo) ((xs.drop (lo * sz)).take ((hi - lo) * sz)) := by
  refine ⟨?_, by have := h.le; omega, by have := h.cap; omega, fun hn => ?_⟩
  · rw [List.length_take, List.length_drop, h.len, ← Nat.sub_mul]
    exact Nat.min_eq_left (Nat.mul_le_mul_right _ (by omega))
  · obtain ⟨b, off, rfl, hb, hc⟩ := h.at_ (by omega)
    rw [if_neg (by have := h.le; omega)]
    refine ⟨b, off + lo * sz, by simp [Addr.add_lit], hb, fun j u hu => ?_⟩
    rw [Nat.add_assoc]
    refine hc _ u ?_
    have hj : j < (hi - lo) * sz := by
      have := (List.getElem?_eq_some_iff.1 hu).1
      simp at this
      omega
    rw [List.getElem?_take, if_pos hj, List.getElem?_drop] at hu
    exact hu
end

/-! ### Types of slices -/
structure STy (P : Program) (t e : TypeId) (sz by_ : Nat) (z : Value) : Prop where
  ut : P.underlying t = some (.slice e)
  inf : (P.info? e).map (fun i => (i.zero, i.size, i.bytes)) = some (some z, sz, by_)
  zs : z.cells.size = sz
  pos : 0 < sz
  bpos : 0 < by_

/-! ### cuts, as equations for the walk -/
section
variable {P : Program} {t e : TypeId} {sz by_ : Nat} {z : Value}
theorem run_cut_hi (T : STy P t e sz by_ z) (A : Option Addr) (n c : Nat) (k : IntKind) (h : Int) (hi : Nat) (he : h = (hi : Int)) (h2 : hi ≤ c) (w : World) :
    (Instr.slice t (.slice A n c) none (some (.int k h)) none).run P w = .ok (.slice A hi c) w := by
  obtain ⟨i, hi', hz, hs, hb⟩ := info_parts T.inf
  subst he
  have e0 : A.map (fun x => x.add 0) = A := by cases A <;> simp [Addr.add]
  simp [Instr.slice, run_underlying T.ut, Instr.sliceBounds, run_sliceBound, sizeOf, typeInfo, hi', h2, e0]
theorem run_cut_lo (T : STy P t e sz by_ z) (A : Option Addr) (n c : Nat) (k : IntKind) (l : Int) (lo : Nat) (he : l = (lo : Int)) (h1 : lo ≤ n) (_h2 : n ≤ c) (w : World) :
    (Instr.slice t (.slice A n c) (some (.int k l)) none none).run P w = .ok (.slice (if c = lo then A else A.map (·.add (lo * sz))) (n - lo) (c - lo)) w := by
  obtain ⟨i, hi', hz, hs, hb⟩ := info_parts T.inf
  subst he
  simp [Instr.slice, run_underlying T.ut, Instr.sliceBounds, run_sliceBound, sizeOf, typeInfo, hi', h1, hs]
theorem cut_hi (T : STy P t e sz by_ z) (A : Option Addr) (n c : Nat) (k : IntKind) (h : Int) (hi : Nat) (he : h = (hi : Int)) (h2 : hi ≤ c) (w : World) :
    (Instr.sliceAt t (.slice A n c) none (some (.int k h)) none).run P w = .ok (.slice A hi c) w := by
  simp only [Instr.sliceAt, Sem.run_bind, run_underlying T.ut, Result.andThen]
  exact run_cut_hi T A n c k h hi he h2 w
theorem cut_lo (T : STy P t e sz by_ z) (A : Option Addr) (n c : Nat) (k : IntKind) (l : Int) (lo : Nat) (he : l = (lo : Int)) (h1 : lo ≤ n) (h2 : n ≤ c) (w : World) :
    (Instr.sliceAt t (.slice A n c) (some (.int k l)) none none).run P w = .ok (.slice (if c = lo then A else A.map (·.add (lo * sz))) (n - lo) (c - lo)) w := by
  simp only [Instr.sliceAt, Sem.run_bind, run_underlying T.ut, Result.andThen]
  exact run_cut_lo T A n c k l lo he h1 h2 w
end

/-! ### append onto a row of the call's own -/
section
variable {P : Program} (w : World)

theorem run_app {t e : TypeId} {sz by_ : Nat} {z : Value} (T : STy P t e sz by_ z) (base : Nat) (ty : TypeId)
    (v : Value) (n : Nat) (xs : List Value) (hown : w.ownsRow base e sz v n xs)
    (B : Nat) (A : Option Addr) (m c : Nat) (news : List Value) (hr : Rd w B sz A m c news) (h1 : ∀ u ∈ news, u.oneCell' = true)
    (hbytes : (n + m) * by_ ≤ 140737488355328) (hbase : base ≤ w.heap.size) :
    ∃ v' w', (Builtin.append_ #[t, t] ty #[v, .slice A m c]).run P w = .ok v' w' ∧ w'.ownsRow base e sz v' (n + m) (xs ++ news) ∧ w.grownBy w' v.ownBlock ∧
      (v'.ownBlock = v.ownBlock ∨ v'.ownBlock = some w.heap.size) := by
  obtain ⟨i, hi, hz, hs, hb⟩ := info_parts T.inf
  have h63 : n + m ≤ maxLen := by
    have := Nat.le_mul_of_pos_right (n + m) T.bpos
    simp only [maxLen]; omega
  rcases A with _ | ad
  · have hm : m = 0 := by
      rcases Nat.eq_zero_or_pos m with h0 | h0
      · exact h0
      · obtain ⟨b, off, h, _⟩ := hr.at_ h0
        cases h
    subst hm
    have hn : news = [] := List.eq_nil_of_length_eq_zero (by simpa using hr.len)
    subst hn
    refine ⟨v, w, ?_, by simpa using hown, World.grownBy.refl w _, .inl rfl⟩
    rcases hown.2 with ⟨rfl, rfl⟩ | ⟨g, cap, cur, rfl, _, _, hnc, _⟩
    · simp [Builtin.append_, run_underlying T.ut, sizeOf, typeInfo, hi, Builtin.lenOf, Builtin.firstCells]
    · simp [Builtin.append_, run_underlying T.ut, sizeOf, typeInfo, hi, Builtin.lenOf, Builtin.firstCells, hnc, storeCells]
  · have hcells : ∀ j u, news[j]? = some u → w.cell? (ad.add j) = some u := by
      intro j u hu
      rcases Nat.eq_zero_or_pos m with h0 | h0
      · subst h0
        have hn : news = [] := List.eq_nil_of_length_eq_zero (by simpa using hr.len)
        subst hn
        simp at hu
      · obtain ⟨b, off, h, _, hc⟩ := hr.at_ h0
        injection h with h
        subst h
        rw [Addr.add_lit]
        exact hc j u hu
    obtain ⟨v', w', hrun, h2, h3, _, h5⟩ := run_append_own_at (P := P) w base t ty e i z sz by_ T.ut hi hz hs hb T.zs T.pos v n xs hown ad m c news hr.len hcells h1 h63 hbytes hbase
    exact ⟨v', w', hrun, h2, h3, h5⟩

theorem wp_app {t e : TypeId} {sz by_ : Nat} {z : Value} {o : Oper} {a : Act} {K : Act → World → Prop} {Q : Exit → Act → World → Prop} (T : STy P t e sz by_ z) (s x : Operand)
    (ho : o.op = .call { callee := .builtin .append, args := #[s, x], argTypes := #[t, t] }) (base : Nat)
    (v : Value) (n : Nat) (xs : List Value) (hs : a.eval s = v) (hown : w.ownsRow base e sz v n xs)
    (B : Nat) (A : Option Addr) (m c : Nat) (news : List Value) (hx : a.eval x = .slice A m c) (hr : Rd w B sz A m c news) (h1 : ∀ u ∈ news, u.oneCell' = true)
    (hbytes : (n + m) * by_ ≤ 140737488355328) (hbase : base ≤ w.heap.size)
    (h : ∀ v' w', w'.ownsRow base e sz v' (n + m) (xs ++ news) → w.grownBy w' v.ownBlock → (v'.ownBlock = v.ownBlock ∨ v'.ownBlock = some w.heap.size) → K (a.put o.dst v') w') : o.wp P a w K Q := by
  obtain ⟨v', w', hrun, h2, h3, h4⟩ := run_app (P := P) w T base o.type v n xs hown B A m c news hr h1 hbytes hbase
  unfold Oper.wp execOp
  simp only [ho, resolve, invoke, builtin, Sem.run_bind, Sem.run_pure, Result.andThen_ok, List.map_toArray, List.map_cons, List.map_nil, hs, hx, hrun]
  exact h v' w' h2 h3 h4

theorem wpList_app {t e : TypeId} {sz by_ : Nat} {z : Value} {ops : Array Oper} {rest : List Oper} {o : Oper} {a : Act} {Q : Exit → Act → World → Prop} (T : STy P t e sz by_ z) (hgd : o.guard = none) (s x : Operand)
    (ho : o.op = .call { callee := .builtin .append, args := #[s, x], argTypes := #[t, t] }) (base : Nat)
    (v : Value) (n : Nat) (xs : List Value) (hs : a.eval s = v) (hown : w.ownsRow base e sz v n xs)
    (B : Nat) (A : Option Addr) (m c : Nat) (news : List Value) (hx : a.eval x = .slice A m c) (hr : Rd w B sz A m c news) (h1 : ∀ u ∈ news, u.oneCell' = true)
    (hbytes : (n + m) * by_ ≤ 140737488355328) (hbase : base ≤ w.heap.size)
    (h : ∀ v' w', w'.ownsRow base e sz v' (n + m) (xs ++ news) → w.grownBy w' v.ownBlock → (v'.ownBlock = v.ownBlock ∨ v'.ownBlock = some w.heap.size) → wpList P ops Q rest (a.put o.dst v') w') :
    wpList P ops Q (o :: rest) a w :=
  wpList_plain hgd fun _ hK => wp_app w T s x ho base v n xs hs hown B A m c news hx hr h1 hbytes hbase fun v' w' h2 h3 h4 => hK _ _ (h v' w' h2 h3 h4)
end

/-- behind an append: what lies below the own row's base is as it was -/
theorem below_app {B base : Nat} {w0 w w' : World} {v : Value} {n : Nat} {xs : List Value} {e : TypeId} {sz : Nat} (hb : Below B w0 w) (hB : B ≤ base) (hown : w.ownsRow base e sz v n xs)
    (hg : w.grownBy w' v.ownBlock) (hz : B ≤ w.heap.size) : Below B w0 w' :=
  hb.grown hg hz fun k hk => Nat.le_trans hB (hown.lt k hk).1

theorem own_below {base : Nat} {w w' : World} {v : Value} {n : Nat} {xs : List Value} {e : TypeId} {sz : Nat} (h : w.ownsRow base e sz v n xs) (hb : Below w.heap.size w w') : w'.ownsRow base e sz v n xs :=
  h.kept (row := none) ⟨hb.os, hb.tape, hb.output, hb.size, fun k hk _ => hb.block k hk⟩ (by cases hv : v.ownBlock <;> simp)
theorem own_base {base base' : Nat} {w : World} {v : Value} {n : Nat} {xs : List Value} {e : TypeId} {sz : Nat} (h : w.ownsRow base e sz v n xs) (hb : base' ≤ base) : w.ownsRow base' e sz v n xs :=
  ⟨h.1, h.2.imp id fun ⟨g, cap, cur, hv, hg, r⟩ => ⟨g, cap, cur, hv, Nat.le_trans hb hg, r⟩⟩
theorem own_lit (w : World) {base : Nat} (e : TypeId) (sz n : Nat) (cs : Array Value) (hb : base ≤ w.heap.size) (hm : n ≤ maxLen) (hs : cs.size = n * sz) :
    (w.alloc (.cells cs e)).ownsRow base e sz (.slice (some ⟨w.heap.size, 0, none⟩) n n) n cs.toList :=
  World.ownsRow_lit w cs n hb hm hs

/-- behind a call that leaves what was there -/
theorem below_call {B : Nat} {w0 w w' : World} (h : Below B w0 w) (hB : B ≤ w.heap.size) (hc : Below w.heap.size w w') : Below B w0 w' := h.trans (hc.mono hB)

/-- the call gives a row of its own that holds xs; what was there is as it was -/
def RetRow (w : World) (t : TypeId) (sz n : Nat) (xs : List Value) (e : Ending) (w' : World) : Prop :=
  ∃ v, e = .returned v ∧ w'.ownsRow w.heap.size t sz v n xs ∧ Below w.heap.size w w'
theorem Rd.none_ {w : World} {B sz n c : Nat} {xs : List Value} (h : Rd w B sz none n c xs) : n = 0 ∧ xs = [] := by
  rcases Nat.eq_zero_or_pos n with h0 | h0
  · subst h0; exact ⟨rfl, List.eq_nil_of_length_eq_zero (by simpa using h.len)⟩
  · obtain ⟨b, off, e, _⟩ := h.at_ h0; cases e

/-! ### Bytes -/
def byteV (b : UInt8) : Value := .int .u8 (b.toNat : Int)
def bytesV (l : List UInt8) : List Value := l.map byteV
theorem bytesV_length (l : List UInt8) : (bytesV l).length = l.length := by simp [bytesV]
theorem bytesV_append (a b : List UInt8) : bytesV (a ++ b) = bytesV a ++ bytesV b := by simp [bytesV]
theorem bytesV_one (l : List UInt8) : ∀ u ∈ bytesV l, u.oneCell' = true := by
  intro u hu
  obtain ⟨_, _, rfl⟩ := List.mem_map.1 hu
  rfl
theorem bytesV_get (l : List UInt8) (k : Nat) (hk : k < l.length) : (bytesV l)[k]? = some (byteV l[k]) := by simp [bytesV, hk]

/-- 'string(b)' of a slice that reads the bytes l -/
theorem run_str {P : Program} (w : World) {src dst e : TypeId} {B n c : Nat} {A : Option Addr} {l : List UInt8} (hs : P.underlying src = some (.slice e)) (he : P.underlying e = some (.int .u8)) (hd : P.underlying dst = some .string)
    (h : Rd w B 1 A n c (bytesV l)) : (convert src dst (.slice A n c)).run P w = .ok (.string ⟨l.toArray⟩) w := by
  have hn : n = l.length := by have := h.len; simp [bytesV] at this; omega
  subst hn
  rcases Nat.eq_zero_or_pos l.length with h0 | h0
  · have hl : l = [] := List.eq_nil_of_length_eq_zero h0
    subst hl
    rcases A with _ | ad
    · rw [run_convert_bytes_string w src dst e _ _ c hs he hd]
      rfl
    · exact run_convert_bytes_back w src dst e ad c [] hs he hd (fun j hj => absurd hj (by simp))
  · obtain ⟨b, off, rfl, _, hc⟩ := h.at_ h0
    refine run_convert_bytes_back w src dst e _ c l hs he hd (fun j hj => ?_)
    rw [Addr.add_lit]
    exact hc j _ (bytesV_get l j hj)
end

section
open Go.RowKit

theorem tyBytes : STy Try.prog 22 5 1 1 (.int .u8 0) := ⟨Try.underlying22, by kernel_rfl, rfl, by decide, by decide⟩

/-- the call gives v; what was there is as it was -/
def RetVal (w : World) (v : Value) (e : Ending) (w' : World) : Prop := e = .returned v ∧ Below w.heap.size w w'
end

section
open Go.Lib

def sgn (s : ByteArray) (p : Nat) : Nat := (Utf8.decode s p).1
def wid (s : ByteArray) (p : Nat) : Nat := (Utf8.decode s p).2
/-- a sign that belongs to bytes that are one's -/
def cleanAt (s : ByteArray) (p : Nat) : Bool := !(decide (sgn s p = 65533) && decide (wid s p = 1))
/-- a sign that may stand in a name at place p -/
def fairAt (s : ByteArray) (p : Nat) : Bool := decide (97 ≤ sgn s p ∧ sgn s p ≤ 122 ∨ sgn s p = 95 ∨ 127 < sgn s p ∨ 48 ≤ sgn s p ∧ sgn s p ≤ 57 ∧ 0 < p)
/-- so at each place at which a sign begins -/
def allFrom (s : ByteArray) (q : Nat → Bool) : Nat → Nat → Bool
  | 0, _ => true
  | b + 1, p => if p < s.size then q p && allFrom s q b (p + wid s p) else true
theorem allFrom_end (s : ByteArray) (q : Nat → Bool) (b p : Nat) (h : ¬ p < s.size) : allFrom s q b p = true := by
  cases b with
  | zero => rfl
  | succ b => simp [allFrom, h]
theorem allFrom_no (s : ByteArray) (q : Nat → Bool) (b p : Nat) (h : p < s.size) (hb : s.size ≤ p + b) (hq : q p = false) : allFrom s q b p = false := by
  cases b with
  | zero => omega
  | succ b => simp [allFrom, h, hq]
def isClean (s : ByteArray) : Bool := allFrom s (cleanAt s) s.size 0
def isFair (s : ByteArray) : Bool := allFrom s (fairAt s) s.size 0
/-- may a field's name be? -/
def named (s : ByteArray) : Bool := decide (1 ≤ s.size) && decide (s.size ≤ 16) && isClean s && isFair s

/-! ### one sign, by its bytes -/
theorem decodeN_low (n b0 b1 b2 b3 : Nat) (h : b0 < 128) : decodeN n b0 b1 b2 b3 = (b0, 1) := by unfold decodeN; rw [if_pos h]
section
open Go.Lib
variable {k least base n : Nat} {b : Nat → Nat}
end
end

section
open Go.RowKit

theorem tup_eq (t : ByteArray) (v k : Nat) (c : Bool) (h : Utf8.decode t 0 = (v, k)) (hc : c = !(decide (v = 65533) && decide (k = 1))) :
    (Value.tuple #[.int .i64 (sgn t 0 : Int), .int .i64 (wid t 0 : Int), .bool (cleanAt t 0)]) = .tuple #[.int .i64 (v : Int), .int .i64 (k : Int), .bool c] := by
  unfold cleanAt sgn wid
  rw [h, hc]
def SignEnd (t : ByteArray) (e : Ending) : Prop := e = .returned (.tuple #[.int .i64 (sgn t 0 : Int), .int .i64 (wid t 0 : Int), .bool (cleanAt t 0)])
theorem SignEnd.of (t : ByteArray) (v k : Nat) (c : Bool) (h : Utf8.decode t 0 = (v, k)) (hc : c = !(decide (v = 65533) && decide (k = 1))) : SignEnd t (.returned (.tuple #[.int .i64 (v : Int), .int .i64 (k : Int), .bool c])) := by
  unfold SignEnd; rw [tup_eq t v k c h hc]
end

section
open Go.RowKit

/-! ### two rows of the call's own lie apart -/
def Apart (a b : Value) : Prop := ∀ k, a.ownBlock = some k → b.ownBlock ≠ some k
theorem Apart.symm {a b : Value} (h : Apart a b) : Apart b a := fun k h1 h2 => h k h2 h1
theorem Apart.kept {w w' : World} {a b : Value} {base : Nat} {e : TypeId} {sz n : Nat} {xs : List Value} (h : Apart a b) (hb : w.ownsRow base e sz b n xs) (hg : w.grownBy w' a.ownBlock) : w'.ownsRow base e sz b n xs :=
  hb.kept hg (by
    cases hv : b.ownBlock with
    | none => exact .inl rfl
    | some k => exact .inr fun h2 => h k h2.symm hv)
end

section
open Go.RowKit

structure Fd where
  id : UInt32
  name : ByteArray
  kind : UInt8
  need : Bool
instance : Inhabited Fd := ⟨⟨0, ByteArray.empty, 0, false⟩⟩
/-- a field's cells -/
def fdV (f : Fd) : List Value := [.int .u32 (f.id.toNat : Int), .string f.name, .int .u8 (f.kind.toNat : Int), .bool f.need]
def fdsV (l : List Fd) : List Value := l.flatMap fdV
theorem fdV_length (f : Fd) : (fdV f).length = 4 := rfl
theorem fdsV_cons (f : Fd) (l : List Fd) : fdsV (f :: l) = fdV f ++ fdsV l := rfl
theorem fdsV_length (l : List Fd) : (fdsV l).length = l.length * 4 := by
  induction l with
  | nil => rfl
  | cons f l ih => rw [fdsV_cons, List.length_append, ih, fdV_length, List.length_cons]; omega
theorem fdsV_get (l : List Fd) (k j : Nat) (hk : k < l.length) (hj : j < 4) : (fdsV l)[k * 4 + j]? = (fdV l[k])[j]? := by
  induction l generalizing k with
  | nil => simp at hk
  | cons f l ih =>
    rw [fdsV_cons]
    cases k with
    | zero => rw [List.getElem?_append_left (by rw [fdV_length]; omega)]; simp
    | succ k =>
      rw [List.getElem?_append_right (by rw [fdV_length]; omega), fdV_length, show (k + 1) * 4 + j - 4 = k * 4 + j by omega]
      rw [ih k (by simpa using hk)]
      simp
/-- has one of them this name? -/
def hasName (l : List Fd) (s : ByteArray) : Bool := l.any fun f => f.name.toList == s.toList
/-- the Id ahead of field i (0: none) -/
def wasId (l : List Fd) (i : Nat) : Nat := if i = 0 then 0 else (l.getD (i - 1) default).id.toNat
/-- the error of field i (0: none) -/
def errAt (l : List Fd) (i : Nat) : Nat :=
  let f := l.getD i default
  if f.id.toNat ≤ wasId l i then 81
  else if (!named f.name || hasName (l.take i) f.name) = true then 80
  else if (decide (f.kind.toNat < 1) || decide (3 < f.kind.toNat)) = true then 10
  else if ((f.need != decide (i = 0)) || (decide (i = 0) && decide (f.kind.toNat = 2))) = true then 82
  else 0
/-- the first one's -/
def errFrom (l : List Fd) : Nat → Nat → Nat
  | 0, _ => 0
  | b + 1, i => if errAt l i = 0 then errFrom l b (i + 1) else errAt l i
/-- which schemas may be -/
def check (id : UInt32) (l : List Fd) : Nat := if id.toNat < 1 ∨ l.length < 1 ∨ 8 < l.length then 1 else errFrom l l.length 0
/-- a row of fields: field k's four cells -/
theorem Rd.fd {w : World} {B n c : Nat} {A : Option Addr} {l : List Fd} (h : Rd w B 4 A n c (fdsV l)) {k : Nat} (hk : k < l.length) :
    ∃ b off, A = some ⟨b, off, none⟩ ∧ b < B ∧ w.cell? ⟨b, off + k * 4, none⟩ = some (.int .u32 ((l.getD k default).id.toNat : Int)) ∧ w.cell? ⟨b, off + k * 4 + 1, none⟩ = some (.string (l.getD k default).name) ∧
      w.cell? ⟨b, off + k * 4 + 2, none⟩ = some (.int .u8 ((l.getD k default).kind.toNat : Int)) ∧ w.cell? ⟨b, off + k * 4 + 3, none⟩ = some (.bool (l.getD k default).need) := by
  have hn : 0 < n := by
    have := h.len
    rw [fdsV_length] at this
    omega
  obtain ⟨b, off, e, hb, hc⟩ := h.at_ hn
  have hd : l.getD k default = l[k] := by simp [List.getD, hk]
  have g : ∀ j, j < 4 → (fdsV l)[k * 4 + j]? = (fdV (l.getD k default))[j]? := fun j hj => by rw [hd]; exact fdsV_get l k j hk hj
  exact ⟨b, off, e, hb, hc (k * 4 + 0) _ (g 0 (by omega)), hc (k * 4 + 1) _ (g 1 (by omega)), hc (k * 4 + 2) _ (g 2 (by omega)), hc (k * 4 + 3) _ (g 3 (by omega))⟩
theorem Rd.lenF {w : World} {B n c : Nat} {A : Option Addr} {l : List Fd} (h : Rd w B 4 A n c (fdsV l)) : n = l.length := by
  have := h.len
  rw [fdsV_length] at this
  omega
section
variable {l : List Fd} {k : Nat} {f : Fd} (hf : l.getD k default = f)
include hf
end
/-! ### a schema with a field more -/
section
variable {id : UInt32} {l : List Fd} {name : ByteArray} {k : Nat}
end
/-- a schema that reads so -/
def SchR (w : World) (v : Value) (id : UInt32) (l : List Fd) : Prop := ∃ A c, v = .agg #[.int .u32 (id.toNat : Int), .slice A l.length c] ∧ Rd w w.heap.size 4 A l.length c (fdsV l)
theorem SchR.none (w : World) : SchR w (.agg #[.int .u32 0, .slice none 0 0]) 0 [] := ⟨Option.none, 0, rfl, Rd.nil _ _ _⟩
theorem SchR.below {w w' : World} {v : Value} {id : UInt32} {l : List Fd} (h : SchR w v id l) (hb : Below w.heap.size w w') : SchR w' v id l := by
  obtain ⟨A, c, e, hr⟩ := h
  exact ⟨A, c, e, (hr.below hb).more hb.size⟩
end

section
open Go.RowKit

/-- what is known of a temporary: its value, or a word on it -/
inductive Slot where
  | is (v : Value)
  | has (p : Value → World → Prop)

def Slot.holds : Slot → Value → World → Prop
  | .is v, u, _ => u = v
  | .has p, u, w => p u w
@[go_sem] def Slot.lit : Slot → Value
  | .is v => v
  | .has _ => undef
def Slot.exact : Slot → Bool
  | .is _ => true
  | .has _ => false
@[go_sem] def lits (ss : List Slot) : Array Value := (ss.map Slot.lit).toArray
def slotAt (ss : List Slot) (t : Nat) : Slot := ss[t]?.getD (.is undef)
def Slot.mono (E : World → World → Prop) (s : Slot) : Prop := ∀ u w w', E w w' → s.holds u w → s.holds u w'
def growAt (P : Program) (E : World → World → Prop) (s : Slot) (w : World) : Result Next → Prop
  | .ok (.value v) w' => E w w' ∧ s.holds v w'
  | .ok .skip w' => E w w' ∧ s.holds undef w'
  | .ok (.enter f args) w' => E w w' ∧ Calls P f args w' (fun e w'' => ∃ v, e = .returned v ∧ E w' w'' ∧ s.holds v w'')
  | _ => False

section
variable {P : Program} {ops : Array Oper} {md : Region.Mode} {E : World → World → Prop} {w0 : World}

/-- operation o gives s, in whatever frame and world what is known of the temporaries that it looks at -/
def Good (P : Program) (ops : Array Oper) (E : World → World → Prop) (w0 : World) (ss : List Slot) (o : Oper) (s : Slot) : Prop :=
  s.mono E ∧ ∀ (a : Act) (w : World), E w0 w → a.tmps.size = ss.length → (∀ t ∈ o.looksAt ops, (slotAt ss t).holds (a.tmps.getD t undef) w) →
    if Region.wanted o (yielded ops a.tmps) = true then growAt P E s w ((execOp a.eval o).run P w) else s = .is undef

theorem Good.congr {ss ss' : List Slot} {o : Oper} {s : Slot} (h : Good P ops E w0 ss o s) (hl : ss'.length = ss.length) (hs : ∀ t ∈ o.looksAt ops, slotAt ss' t = slotAt ss t) : Good P ops E w0 ss' o s :=
  ⟨h.1, fun a w hw hz hk => h.2 a w hw (hz.trans hl) fun t ht => by have := hk t ht; rwa [hs t ht] at this⟩

/-! ### From what is known to the frame -/
/-! ### Whatever order is picked -/
/-! ### Of a head, with a tail in one order -/
/-! ### The steps of the walk -/
section
variable {Q : List Slot → Prop} {o : Oper} {rest : List Oper} {ss : List Slot}

end

/-! ### At the end: the frame written out -/
end

/-! ### The growth in use: what was there is as it was -/
section
variable {P : Program} {ops : Array Oper} {w0 : World} {Q : List Slot → Prop} {o : Oper} {rest : List Oper} {ss : List Slot}
end
end

section
open Go.RowKit

structure Box (w w' : World) (cs : Array Value) : Prop where
  below : Below w.heap.size w w'
  size : w'.heap.size = w.heap.size + 1
  cell : ∀ j v, cs[j]? = some v → w'.cell? ⟨w.heap.size, j, none⟩ = some v
  free : ∀ j, w'.frozen? ⟨w.heap.size, j, none⟩ = false
theorem box_new (w : World) (cs : Array Value) (t : TypeId) : Box w (w.alloc (.cells cs t)) cs where
  below := (Below.refl _ _).alloc (Nat.le_refl _) _
  size := by simp
  cell := fun j v h => by
    rw [cell_of_row _ _ _ cs t (0, 0) (heap_alloc_new w _)]
    exact h
  free := fun j => by
    simp
theorem set2 (W : World) (b : Nat) (u v x y : Value) (c0 : W.cell? ⟨b, 0, none⟩ = some u) (c1 : W.cell? ⟨b, 1, none⟩ = some v) :
    ((W.setCell ⟨b, 0, none⟩ x).setCell ⟨b, 1, none⟩ y).cell? ⟨b, 0, none⟩ = some x ∧ ((W.setCell ⟨b, 0, none⟩ x).setCell ⟨b, 1, none⟩ y).cell? ⟨b, 1, none⟩ = some y := by
  constructor <;> go_simp
theorem below_set2 {B : Nat} {w W : World} (h : Below B w W) (b : Nat) (hb : B ≤ b) (x y : Value) : Below B w ((W.setCell ⟨b, 0, none⟩ x).setCell ⟨b, 1, none⟩ y) := (h.setCell hb x).setCell hb y
end

section
open Go.RowKit

/-- what stands in rows -/
inductive Vl where
  | none
  | whole (n : Int)
  | truth (b : Bool)
  | text (s : ByteArray)
instance : Inhabited Vl := ⟨.none⟩
def vlV : Vl → Value
  | .none => .nilIface
  | .whole n => .iface 2 (.int .i64 n)
  | .truth b => .iface 4 (.bool b)
  | .text s => .iface 9 (.string s)
def vlsV (l : List Vl) : List Value := l.map vlV
end

section
open Go.RowKit

end

section
open Go.RowKit

end

section
open Go.RowKit

end

section
open Go.RowKit

/-! ### texts -/
def strsV (l : List ByteArray) : List Value := l.map .string
/-! ### a row that does not lie in a box -/
def Away (b : Nat) (A : Option Addr) (n : Nat) : Prop := 0 < n → ∀ b' off s, A = some ⟨b', off, s⟩ → b' ≠ b
theorem Rd.set {w : World} {B sz n c : Nat} {A : Option Addr} {xs : List Value} (h : Rd w B sz A n c xs) {b : Nat} (ha : Away b A n) (j : Nat) (x : Value) : Rd (w.setCell ⟨b, j, none⟩ x) B sz A n c xs :=
  ⟨h.len, h.le, h.cap, fun hn => by
    obtain ⟨b2, off, e, hb, hc⟩ := h.at_ hn
    have hne := ha hn _ _ _ e
    refine ⟨b2, off, e, hb, fun j2 u hu => ?_⟩
    have h3 := hc j2 u hu
    rw [World.cell?_setCell_other]
    · exact h3
    · intro q
      injection q with q
      exact hne q.symm⟩
/-- fields do not lie in a schema's box -/
theorem away_box {w : World} {B n c : Nat} {A : Option Addr} {l : List Fd} {b : Nat} {x : UInt32} {A2 : Option Addr} {n2 c2 : Nat} (h : Rd w B 4 A n c (fdsV l)) (h0 : w.cell? ⟨b, 0, none⟩ = some (.int .u32 (x.toNat : Int))) (h1 : w.cell? ⟨b, 1, none⟩ = some (.slice A2 n2 c2)) (h2 : ∀ j, 2 ≤ j → w.cell? ⟨b, j, none⟩ = none) : Away b A n := fun hn b' off s e q => by
  subst q
  have hl := h.lenF
  obtain ⟨b3, off3, e3, _, f0, f1, _, _⟩ := h.fd (k := 0) (by omega)
  rw [e] at e3
  injection e3 with e3
  injection e3 with q1 q2 q3
  subst q1 q2
  rcases Nat.lt_or_ge off 2 with q | q
  · rcases (show off = 0 ∨ off = 1 by omega) with rfl | rfl
    · have := f1
      rw [show 0 + 0 * 4 + 1 = 1 by omega, h1] at this
      cases this
    · have := f0
      rw [show 1 + 0 * 4 = 1 by omega, h1] at this
      cases this
  · have := f0
    rw [show off + 0 * 4 = off by omega, h2 off q] at this
    cases this

/-! ### what holds at each round -/
structure GI (wL : World) (bt : Nat) (l : List Fd) (rv : List Vl) (tid : UInt32) (tA : Option Addr) (tc : Nat) (tl ext : List Fd) (nA : Option Addr) (nc : Nat) (now : List Vl) (wr : World) : Prop where
  tl_ : tl = l ++ ext
  now_ : now = rv ++ List.replicate ext.length .none
  chk : check tid tl = 0
  c0 : wr.cell? ⟨bt, 0, none⟩ = some (.int .u32 (tid.toNat : Int))
  c1 : wr.cell? ⟨bt, 1, none⟩ = some (.slice tA tl.length tc)
  c2 : ∀ j, 2 ≤ j → wr.cell? ⟨bt, j, none⟩ = none
  f0 : wr.frozen? ⟨bt, 0, none⟩ = false
  f1 : wr.frozen? ⟨bt, 1, none⟩ = false
  z : bt < wr.heap.size
  rt : Rd wr wr.heap.size 4 tA tl.length tc (fdsV tl)
  rn : Rd wr wr.heap.size 1 nA now.length nc (vlsV now)
  an : Away bt nA now.length
  below : Below bt wL wr
section
variable {wL : World} {bt : Nat} {l : List Fd} {rv : List Vl} {tid : UInt32} {tA : Option Addr} {tc : Nat} {tl ext : List Fd} {nA : Option Addr} {nc : Nat} {now : List Vl} {wr w' : World}
/-- a longer one is stored -/
theorem GI.store (h : GI wL bt l rv tid tA tc tl ext nA nc now wr) {uid : UInt32} {uA : Option Addr} {uc : Nat} {f : Fd} {mA : Option Addr} {mc : Nat} (hc : check uid (tl ++ [f]) = 0)
    (ru : Rd wr wr.heap.size 4 uA (tl ++ [f]).length uc (fdsV (tl ++ [f]))) (rm : Rd wr wr.heap.size 1 mA (now ++ [Vl.none]).length mc (vlsV (now ++ [Vl.none]))) (am : Away bt mA (now ++ [Vl.none]).length) :
    GI wL bt l rv uid uA uc (tl ++ [f]) (ext ++ [f]) mA mc (now ++ [Vl.none]) ((wr.setCell ⟨bt, 0, none⟩ (.int .u32 (uid.toNat : Int))).setCell ⟨bt, 1, none⟩ (.slice uA (tl ++ [f]).length uc)) := by
  have hs : ((wr.setCell ⟨bt, 0, none⟩ (.int .u32 (uid.toNat : Int))).setCell ⟨bt, 1, none⟩ (.slice uA (tl ++ [f]).length uc)).heap.size = wr.heap.size := by simp
  have au := away_box ru h.c0 h.c1 h.c2
  obtain ⟨q0, q1⟩ := set2 wr bt _ _ (.int .u32 (uid.toNat : Int)) (.slice uA (tl ++ [f]).length uc) h.c0 h.c1
  have f0 := h.f0
  have f1 := h.f1
  refine ⟨by rw [h.tl_, List.append_assoc], ?_, hc, q0, q1, fun j hj => ?_, by go_simp, by go_simp, by rw [hs]; exact h.z, by rw [hs]; exact (ru.set au 0 _).set au 1 _, by rw [hs]; exact (rm.set am 0 _).set am 1 _, am, below_set2 h.below bt (Nat.le_refl _) _ _⟩
  · rw [h.now_, List.append_assoc, List.length_append]
    simp [List.replicate_succ']
  · rw [World.cell?_setCell_other, World.cell?_setCell_other]
    · exact h.c2 j hj
    · intro q; injection q with _ q; omega
    · intro q; injection q with _ q; omega
end

/-! ### rows that are alike -/
section
variable {wL : World} {bt : Nat} {l : List Fd} {rv : List Vl} {tid : UInt32} {tA : Option Addr} {tc : Nat} {tl ext : List Fd} {nA : Option Addr} {nc : Nat} {now : List Vl} {wr w1 : World} {name : ByteArray} {k : Nat}
end
end

section
namespace Var

/-- what varint.Get does: at byte i, acc gathered: the number, how many bytes, the error -/
def getL : Nat → Nat → List UInt8 → Nat × Nat × Nat
  | _, _, [] => (0, 0, 30)
  | i, acc, c :: r =>
    if i = 9 ∧ 1 < c.toNat then (0, 0, 31)
    else if c.toNat < 128 then (if c.toNat = 0 ∧ 0 < i then (0, 0, 31) else (acc + (c.toNat % 128) * 2 ^ (7 * i), i + 1, 0))
    else getL (i + 1) (acc + (c.toNat % 128) * 2 ^ (7 * i)) r
def get (l : List UInt8) : Nat × Nat × Nat := getL 0 0 l

end Var
end

section
open Go.RowKit

end

section
open Go.RowKit

end

section
open Go.RowKit

/-! ### all but one block is as it was -/
structure Oth (b : Nat) (w w' : World) : Prop where
  os : w'.os = w.os
  tape : w'.tape = w.tape
  output : w'.output = w.output
  size : w.heap.size ≤ w'.heap.size
  block : ∀ k, k < w.heap.size → k ≠ b → w'.heap[k]? = w.heap[k]?
theorem Oth.refl (b : Nat) (w : World) : Oth b w w := ⟨rfl, rfl, rfl, Nat.le_refl _, fun _ _ _ => rfl⟩
theorem Oth.trans {b : Nat} {u v w : World} (h : Oth b u v) (k : Oth b v w) : Oth b u w :=
  ⟨k.os.trans h.os, k.tape.trans h.tape, k.output.trans h.output, Nat.le_trans h.size k.size, fun i hi hne => (k.block i (Nat.lt_of_lt_of_le hi h.size) hne).trans (h.block i hi hne)⟩
theorem Oth.of {b : Nat} {w w' : World} (h : Below w.heap.size w w') : Oth b w w' := ⟨h.os, h.tape, h.output, h.size, fun k hk _ => h.block k hk⟩
theorem Oth.drew {b : Nat} {u w : World} (h : Oth b u w) : Oth b u w.drew := ⟨h.os, h.tape, h.output, h.size, h.block⟩
theorem Oth.alloc {b : Nat} {u w : World} (h : Oth b u w) (o : Obj) : Oth b u (w.alloc o) := h.trans (.of ((Below.refl _ _).alloc (Nat.le_refl _) o))
theorem Oth.set {b : Nat} {u w : World} (h : Oth b u w) (j : Nat) (x : Value) : Oth b u (w.setCell ⟨b, j, none⟩ x) :=
  h.trans ⟨rfl, rfl, rfl, by simp [World.setCell], fun k _ hne => Below.heap_setCell _ _ _ _ hne⟩
/-- a store into a block that is new -/
theorem Oth.setNew {b : Nat} {u w : World} (h : Oth b u w) {p : Addr} (hp : u.heap.size ≤ p.block) (x : Value) : Oth b u (w.setCell p x) :=
  ⟨h.os, h.tape, h.output, by simp [World.setCell]; exact h.size, fun k hk hne => (Below.heap_setCell _ _ _ _ (by omega)).trans (h.block k hk hne)⟩
theorem Oth.cell {b : Nat} {w w' : World} (h : Oth b w w') {p : Addr} (hp : p.block < w.heap.size) (hne : p.block ≠ b) : w'.cell? p = w.cell? p := World.cell?_of_block (w := w) (h.block p.block hp hne)
theorem Oth.frozen {b : Nat} {w w' : World} (h : Oth b w w') {p : Addr} (hp : p.block < w.heap.size) (hne : p.block ≠ b) : w'.frozen? p = w.frozen? p := World.frozen?_of_block (w := w) (h.block p.block hp hne)
theorem Oth.below {b : Nat} {w w' : World} (h : Oth b w w') (hb : b ≤ w.heap.size) : Below b w w' := ⟨h.os, h.tape, h.output, h.size, fun k hk => h.block k (by omega) (by omega)⟩
theorem own_oth {base b : Nat} {w w' : World} {v : Value} {n : Nat} {xs : List Value} {e : TypeId} {sz : Nat} (h : w.ownsRow base e sz v n xs) (ho : Oth b w w') (hb : b < base) : w'.ownsRow base e sz v n xs := by
  refine h.kept (row := some b) ⟨ho.os, ho.tape, ho.output, ho.size, fun k hk hne => ho.block k hk (fun q => hne (by rw [q]))⟩ ?_
  cases hv : v.ownBlock with
  | none => exact .inl rfl
  | some k =>
    refine .inr fun q => ?_
    have := (h.lt k hv).1
    injection q with q
    omega

/-! ### a cut of bytes -/
theorem rd_lo {w : World} {B c : Nat} {A : Option Addr} {l : List UInt8} (hr : Rd w B 1 A l.length c (bytesV l)) {lo : Nat} (hlo : lo ≤ l.length) : ∃ A2 l2, l2 = l.drop lo ∧
    (∀ k W, (Instr.sliceAt 22 (.slice A l.length c) (some (.int k (lo : Int))) none none).run Try.prog W = .ok (.slice A2 l2.length (c - lo)) W) ∧
    (∀ k W, (Instr.slice 22 (.slice A l.length c) (some (.int k (lo : Int))) none none).run Try.prog W = .ok (.slice A2 l2.length (c - lo)) W) ∧ Rd w B 1 A2 l2.length (c - lo) (bytesV l2) := by
  refine ⟨(if c = lo then A else A.map (·.add (lo * 1))), l.drop lo, rfl, fun k W => ?_, fun k W => ?_, ?_⟩
  · rw [List.length_drop]; exact cut_lo tyBytes A l.length c k (lo : Int) lo rfl hlo hr.le W
  · rw [List.length_drop]; exact run_cut_lo tyBytes A l.length c k (lo : Int) lo rfl hlo hr.le W
  · have := hr.cut hlo (Nat.le_refl _)
    rw [List.length_drop]
    rw [List.take_of_length_le (by simp [bytesV])] at this
    simpa [bytesV, List.map_drop] using this

/-! ### a reader's box -/
structure RdrA (w : World) (b : Nat) (A : Option Addr) (c : Nat) (l : List UInt8) (e : Nat) : Prop where
  c0 : w.cell? ⟨b, 0, none⟩ = some (.slice A l.length c)
  c1 : w.cell? ⟨b, 1, none⟩ = some (.int .i64 (e : Int))
  f0 : w.frozen? ⟨b, 0, none⟩ = false
  f1 : w.frozen? ⟨b, 1, none⟩ = false
  z : b < w.heap.size
  rd : Rd w b 1 A l.length c (bytesV l)
section
variable {w w' : World} {b c : Nat} {A : Option Addr} {l : List UInt8} {e : Nat}
theorem RdrA.keep (h : RdrA w b A c l e) (hb : Below w.heap.size w w') : RdrA w' b A c l e where
  c0 := (hb.cell (p := ⟨b, 0, none⟩) h.z).trans h.c0
  c1 := (hb.cell (p := ⟨b, 1, none⟩) h.z).trans h.c1
  f0 := (hb.frozen (p := ⟨b, 0, none⟩) h.z).trans h.f0
  f1 := (hb.frozen (p := ⟨b, 1, none⟩) h.z).trans h.f1
  z := Nat.lt_of_lt_of_le h.z hb.size
  rd := h.rd.below' hb (Nat.le_of_lt h.z)
end
/-! ### plain: numbers, texts, fields -/
end

section
open Go.RowKit

structure BoxN (w : World) (b : Nat) (cs : List Value) : Prop where
  cell : ∀ j v, cs[j]? = some v → w.cell? ⟨b, j, none⟩ = some v
  free : ∀ j, j < cs.length → w.frozen? ⟨b, j, none⟩ = false
  z : b < w.heap.size
section
variable {w w' : World} {b : Nat} {cs : List Value}
theorem boxN_new (w : World) (cs : Array Value) (t : TypeId) : BoxN (w.alloc (.cells cs t)) w.heap.size cs.toList := by
  have x := box_new w cs t
  exact ⟨fun j v h => x.cell j v (by simpa using h), fun j _ => x.free j, by rw [x.size]; omega⟩
theorem BoxN.keep (h : BoxN w b cs) {B : Nat} (hb : Below B w w') (hz : b < B) : BoxN w' b cs :=
  ⟨fun j v hj => (hb.cell (p := ⟨b, j, none⟩) hz).trans (h.cell j v hj), fun j hj => (hb.frozen (p := ⟨b, j, none⟩) hz).trans (h.free j hj), Nat.lt_of_lt_of_le h.z hb.size⟩
theorem BoxN.oth (h : BoxN w b cs) {b2 : Nat} (ho : Oth b2 w w') (hne : b ≠ b2) : BoxN w' b cs :=
  ⟨fun j v hj => (ho.cell (p := ⟨b, j, none⟩) h.z hne).trans (h.cell j v hj), fun j hj => (ho.frozen (p := ⟨b, j, none⟩) h.z hne).trans (h.free j hj), Nat.lt_of_lt_of_le h.z ho.size⟩
theorem BoxN.set (h : BoxN w b cs) {j : Nat} (x : Value) {u : Value} (hj : cs[j]? = some u) : BoxN (w.setCell ⟨b, j, none⟩ x) b (cs.set j x) := by
  have cu := h.cell j u hj
  have hjl : j < cs.length := (List.getElem?_eq_some_iff.1 hj).1
  refine ⟨fun i v hi => ?_, fun i hi => ?_, by simpa using h.z⟩
  · by_cases hij : j = i
    · subst hij
      have : v = x := by rw [List.getElem?_set_self hjl] at hi; exact (Option.some.inj hi).symm
      subst this
      go_simp
    · rw [List.getElem?_set_ne hij] at hi
      rw [World.cell?_setCell_other]
      · exact h.cell i v hi
      · intro q; injection q with _ q; exact hij q
  · have := h.free i (by simpa using hi)
    go_simp
theorem BoxN.else (h : BoxN w b cs) {p : Addr} (hp : p.block ≠ b) (x : Value) : BoxN (w.setCell p x) b cs := by
  refine ⟨fun i v hi => ?_, fun i hi => ?_, by simpa using h.z⟩
  · rw [World.cell?_setCell_other]
    · exact h.cell i v hi
    · intro q; exact hp (by rw [q])
  · have := h.free i hi
    go_simp
end
/-! ### what Unpack and the document's Schema give -/
theorem results_cell {fn : Func} {p : Tmp} {ty : TypeId} (h : fn.results = #[.cell p ty]) (tmps : Array Value) (P : Program) (w : World) :
    (results fn tmps).run P w =
      ((asAddr (tmps.getD p undef)).run P w).andThen fun a w₁ => (loadVar ty a).run P w₁ := by
  simp only [results, h]
  simp [Sem.run_bind, Result.andThen]
/-! ### what holds at each round -/
section
variable {w0 wr w7 : World} {B0 br bs c fc e : Nat} {uid : UInt32} {A fA : Option Addr} {l : List UInt8} {fs : List Fd}
end
end

section
open Go.RowKit

/-! ### the first place -/
section
variable {α : Type} [Inhabited α] {p : α → Bool} {l : List α}
end

/-! ### rows of structs -/
/-! ### snapshots, schemas -/
structure Sn where
  id : UInt64
  par : UInt64
  seq : UInt64
  off : UInt64
  tim : UInt64
  sch : UInt32
  ms : List ByteArray
instance : Inhabited Sn := ⟨⟨0, 0, 0, 0, 0, 0, []⟩⟩
structure Nl where
  p : Sn
  A : Option Addr
  c : Nat
instance : Inhabited Nl := ⟨⟨default, none, 0⟩⟩
structure Sl where
  id : UInt32
  fs : List Fd
  A : Option Addr
  c : Nat
instance : Inhabited Sl := ⟨⟨0, [], none, 0⟩⟩
def nlV (s : Nl) : List Value := [.int .u64 (s.p.id.toNat : Int), .int .u64 (s.p.par.toNat : Int), .int .u64 (s.p.seq.toNat : Int), .int .u64 (s.p.off.toNat : Int), .int .u64 (s.p.tim.toNat : Int), .int .u32 (s.p.sch.toNat : Int), .slice s.A s.p.ms.length s.c]
def nlsV (l : List Nl) : List Value := l.flatMap nlV
def slV (s : Sl) : List Value := [.int .u32 (s.id.toNat : Int), .slice s.A s.fs.length s.c]
def slsV (l : List Sl) : List Value := l.flatMap slV
section
variable {w w' : World} {B n c : Nat} {A : Option Addr}
end
/-- a table's rows -/
structure TabR (w : World) (B : Nat) (sA : Option Addr) (sc : Nat) (ss : List Sl) (nA : Option Addr) (nc : Nat) (ns : List Nl) : Prop where
  srow : Rd w B 2 sA ss.length sc (slsV ss)
  sin : ∀ s ∈ ss, Rd w B 4 s.A s.fs.length s.c (fdsV s.fs)
  nrow : Rd w B 7 nA ns.length nc (nlsV ns)
  nin : ∀ s ∈ ns, Rd w B 1 s.A s.p.ms.length s.c (strsV s.p.ms)
section
variable {w w' : World} {B B' sc nc : Nat} {sA nA : Option Addr} {ss : List Sl} {ns : List Nl}
theorem TabR.below (h : TabR w B sA sc ss nA nc ns) (hb : Below B w w') : TabR w' B sA sc ss nA nc ns := ⟨h.srow.below hb, fun s hs => (h.sin s hs).below hb, h.nrow.below hb, fun s hs => (h.nin s hs).below hb⟩
theorem TabR.more (h : TabR w B sA sc ss nA nc ns) (hB : B ≤ B') : TabR w B' sA sc ss nA nc ns := ⟨h.srow.more hB, fun s hs => (h.sin s hs).more hB, h.nrow.more hB, fun s hs => (h.nin s hs).more hB⟩
theorem TabR.later (h : TabR w w.heap.size sA sc ss nA nc ns) (hb : Below w.heap.size w w') : TabR w' w'.heap.size sA sc ss nA nc ns := (h.below hb).more hb.size
theorem getD_mem {α : Type} [Inhabited α] {l : List α} {i : Nat} (hi : i < l.length) : l.getD i default ∈ l := by
  simp [List.getD, hi]
end
theorem strsV_one (l : List ByteArray) : ∀ u ∈ strsV l, u.oneCell' = true := by
  intro u hu
  simp [strsV] at hu
  obtain ⟨a, _, rfl⟩ := hu
  rfl
end

section
open Go.RowKit

end
end

section
section
open Go.RowKit

def u64sV (l : List UInt64) : List Value := l.map fun x => .int .u64 (x.toNat : Int)
section
variable {w : World} {B n c : Nat} {A : Option Addr}
theorem Rd.u64 {l : List UInt64} (h : Rd w B 1 A n c (u64sV l)) {k : Nat} (hk : k < l.length) : ∃ b off, A = some ⟨b, off, none⟩ ∧ b < B ∧ w.cell? ⟨b, off + k, none⟩ = some (.int .u64 ((l.getD k default).toNat : Int)) := by
  obtain ⟨b, off, e, hb, hc⟩ := h.cellAt (k := k) (by simp [u64sV]; exact hk)
  refine ⟨b, off, e, hb, hc.trans ?_⟩
  simp [u64sV, List.getD, hk]
end
end

section
open Go.RowKit

def okP (b : Nat) : Bool := decide (97 ≤ b ∧ b ≤ 122 ∨ 48 ≤ b ∧ b ≤ 57 ∨ b = 47 ∨ b = 45)
def pathAt (s : ByteArray) (p : Nat) : Bool := okP (sgn s p)
def pathOk (s : ByteArray) : Bool := decide (1 ≤ s.size) && decide (s.size ≤ 24) && allFrom s (pathAt s) s.size 0
theorem decodeN_high (n b0 b1 b2 b3 : Nat) (h : 128 ≤ b0) : 128 ≤ (Lib.decodeN n b0 b1 b2 b3).1 := by
  unfold Lib.decodeN
  rw [if_neg (by omega)]
  repeat' split
  all_goals simp only []
  all_goals omega
theorem okP_high {b : Nat} (h : 128 ≤ b) : okP b = false := by unfold okP; exact decide_eq_false (by omega)
theorem pathAt_byte (s : ByteArray) (p : Nat) : pathAt s p = okP (s.get! p).toNat ∧ (pathAt s p = true → wid s p = 1) := by
  unfold pathAt sgn wid
  rw [Lib.decode_at]
  by_cases h : (s.get! p).toNat < 128
  · rw [decodeN_low _ _ _ _ _ h]
    exact ⟨rfl, fun _ => rfl⟩
  · have h1 := okP_high (decodeN_high (s.size - p) (s.get! p).toNat (s.get! (p + 1)).toNat (s.get! (p + 2)).toNat (s.get! (p + 3)).toNat (by omega))
    rw [h1, okP_high (show 128 ≤ (s.get! p).toNat by omega)]
    exact ⟨rfl, fun q => by cases q⟩
theorem path_all (s : ByteArray) : ∀ b p, s.size ≤ p + b → (∀ j, p ≤ j → j < s.size → okP (s.get! j).toNat = true) → allFrom s (pathAt s) b p = true := by
  intro b
  induction b with
  | zero => intro p h _; exact allFrom_end _ _ _ _ (by omega)
  | succ b ih =>
    intro p h hall
    by_cases hp : p < s.size
    · obtain ⟨h1, h2⟩ := pathAt_byte s p
      have h3 : pathAt s p = true := by rw [h1]; exact hall p (Nat.le_refl _) hp
      unfold allFrom
      rw [if_pos hp, h3, Bool.true_and, h2 h3]
      exact ih _ (by omega) fun j hj hj2 => hall j (by omega) hj2
    · exact allFrom_end _ _ _ _ hp
theorem path_bad (s : ByteArray) (j : Nat) (hj : j < s.size) (hb : okP (s.get! j).toNat = false) : ∀ b p, p ≤ j → s.size ≤ p + b → allFrom s (pathAt s) b p = false := by
  intro b
  induction b with
  | zero => intro p h1 h2; omega
  | succ b ih =>
    intro p h1 h2
    obtain ⟨q1, q2⟩ := pathAt_byte s p
    cases h3 : pathAt s p with
    | false => exact allFrom_no _ _ _ _ (by omega) h2 h3
    | true =>
      unfold allFrom
      rw [if_pos (by omega), h3, Bool.true_and, q2 h3]
      have : p ≠ j := by rintro rfl; rw [q1] at h3; rw [h3] at hb; cases hb
      exact ih _ (by omega) (by omega)
theorem pathOk_long {s : ByteArray} (h : 24 < s.size) : pathOk s = false := by unfold pathOk; rw [decide_eq_false (show ¬ s.size ≤ 24 by omega)]; simp
theorem get_at (t : ByteArray) : ∀ k (h : k < t.size), t[k]'h = t.get! k := fun k h => by
  cases t with
  | mk d => exact (getElem!_pos d k h).symm
theorem pathOk_bad {s : ByteArray} {k : Nat} (hk : k < s.size) (hb : okP (s.get! k).toNat = false) : pathOk s = false := by
  unfold pathOk
  rw [path_bad s k hk hb s.size 0 (Nat.zero_le _) (by omega), Bool.and_false]
theorem pathOk_good {s : ByteArray} {k : Nat} (h : s.size ≤ k ∨ 30 ≤ k) (hf : ∀ j, j < k → okP (s.get! j).toNat = true) : pathOk s = (decide (1 ≤ s.size) && decide (s.size ≤ 24)) := by
  unfold pathOk
  by_cases h24 : s.size ≤ 24
  · rw [path_all s s.size 0 (by omega) fun j _ hj => hf j (by omega), Bool.and_true]
  · rw [decide_eq_false h24]; simp
set_option maxRecDepth 100000 in
set_option maxHeartbeats 1000000 in
theorem refNamed12 (w : World) (s : ByteArray) (hs : s.size ≤ 9223372036854775807) : Calls Try.prog 36 #[.string s] w fun e w' => e = .returned (.bool (pathOk s)) ∧ w = w' := by
  go_enter Try.func36, Try.ntmps36
  go_wp2
  go_loop [3] (fun iv => ∃ k : Nat, k ≤ 30 ∧ iv = .int .i64 (k : Int) ∧ Hid (∀ j, j < k → okP (s.get! j).toNat = true)) (fun iv => 30 - (intOf iv).toNat)
  case atStart => exact ⟨0, Nat.zero_le _, rfl, hide (fun j h => by omega)⟩
  case round =>
    obtain ⟨k, hk, rfl, hf⟩ := hrel
    by_cases hlt : k < s.size ∧ k < 30
    · obtain ⟨h1, h2⟩ := hlt
      have HB : Hid (okP (s.get! k).toNat = false → pathOk s = false) := hide (fun h => pathOk_bad h1 h)
      obtain ⟨x, hx⟩ : ∃ x, x = (s.get! k).toNat := ⟨_, rfl⟩
      have hx8 : x < 256 := by rw [hx]; exact (s.get! k).toNat_lt
      have hy : (s[k]'h1).toNat = x := by rw [hx, get_at]
      have HX := hide hx
      clear hx
      rcases (show (x < 45) ∨ (x = 45) ∨ (x = 46) ∨ (x = 47) ∨ (48 ≤ x ∧ x ≤ 57) ∨ (58 ≤ x ∧ x ≤ 96) ∨ (97 ≤ x ∧ x ≤ 122) ∨ (123 ≤ x) by omega) with g | g | g | g | g | g | g | g
      · have a1 : decide ((97 : Int) ≤ (x : Int)) = false := decide_eq_false (by omega)
        have a2 : decide ((x : Int) ≤ 122) = true := decide_eq_true (by omega)
        have a3 : decide ((48 : Int) ≤ (x : Int)) = false := decide_eq_false (by omega)
        have a4 : decide ((x : Int) ≤ 57) = true := decide_eq_true (by omega)
        have a5 : ((x : Int) == 47) = false := by rw [beq_eq_false_iff_ne]; omega
        have a6 : ((x : Int) == 45) = false := by rw [beq_eq_false_iff_ne]; omega
        have HO : Hid (okP (s.get! k).toNat = false) := hide (by rw [← HX.out]; unfold okP; exact decide_eq_false (by omega))
        have HG := hide g
        clear g
        go_wp2
        go_ret
        exact ⟨by rw [HB.out HO.out]; rfl, rfl⟩
      · have a1 : decide ((97 : Int) ≤ (x : Int)) = false := decide_eq_false (by omega)
        have a2 : decide ((x : Int) ≤ 122) = true := decide_eq_true (by omega)
        have a3 : decide ((48 : Int) ≤ (x : Int)) = false := decide_eq_false (by omega)
        have a4 : decide ((x : Int) ≤ 57) = true := decide_eq_true (by omega)
        have a5 : ((x : Int) == 47) = false := by rw [beq_eq_false_iff_ne]; omega
        have a6 : ((x : Int) == 45) = true := by rw [beq_iff_eq]; omega
        have HO : Hid (okP (s.get! k).toNat = true) := hide (by rw [← HX.out]; unfold okP; exact decide_eq_true (by omega))
        have HG := hide g
        clear g
        go_wp2
        go_round
        case rel =>
          refine ⟨k + 1, by omega, by go_num, hide (fun j hj => ?_)⟩
          by_cases e : j = k
          · rw [e]; exact HO.out
          · exact hf.out j (by omega)
        case measure => simp [intOf]; omega
      · have a1 : decide ((97 : Int) ≤ (x : Int)) = false := decide_eq_false (by omega)
        have a2 : decide ((x : Int) ≤ 122) = true := decide_eq_true (by omega)
        have a3 : decide ((48 : Int) ≤ (x : Int)) = false := decide_eq_false (by omega)
        have a4 : decide ((x : Int) ≤ 57) = true := decide_eq_true (by omega)
        have a5 : ((x : Int) == 47) = false := by rw [beq_eq_false_iff_ne]; omega
        have a6 : ((x : Int) == 45) = false := by rw [beq_eq_false_iff_ne]; omega
        have HO : Hid (okP (s.get! k).toNat = false) := hide (by rw [← HX.out]; unfold okP; exact decide_eq_false (by omega))
        have HG := hide g
        clear g
        go_wp2
        go_ret
        exact ⟨by rw [HB.out HO.out]; rfl, rfl⟩
      · have a1 : decide ((97 : Int) ≤ (x : Int)) = false := decide_eq_false (by omega)
        have a2 : decide ((x : Int) ≤ 122) = true := decide_eq_true (by omega)
        have a3 : decide ((48 : Int) ≤ (x : Int)) = false := decide_eq_false (by omega)
        have a4 : decide ((x : Int) ≤ 57) = true := decide_eq_true (by omega)
        have a5 : ((x : Int) == 47) = true := by rw [beq_iff_eq]; omega
        have a6 : ((x : Int) == 45) = false := by rw [beq_eq_false_iff_ne]; omega
        have HO : Hid (okP (s.get! k).toNat = true) := hide (by rw [← HX.out]; unfold okP; exact decide_eq_true (by omega))
        have HG := hide g
        clear g
        go_wp2
        go_round
        case rel =>
          refine ⟨k + 1, by omega, by go_num, hide (fun j hj => ?_)⟩
          by_cases e : j = k
          · rw [e]; exact HO.out
          · exact hf.out j (by omega)
        case measure => simp [intOf]; omega
      · have a1 : decide ((97 : Int) ≤ (x : Int)) = false := decide_eq_false (by omega)
        have a2 : decide ((x : Int) ≤ 122) = true := decide_eq_true (by omega)
        have a3 : decide ((48 : Int) ≤ (x : Int)) = true := decide_eq_true (by omega)
        have a4 : decide ((x : Int) ≤ 57) = true := decide_eq_true (by omega)
        have a5 : ((x : Int) == 47) = false := by rw [beq_eq_false_iff_ne]; omega
        have a6 : ((x : Int) == 45) = false := by rw [beq_eq_false_iff_ne]; omega
        have HO : Hid (okP (s.get! k).toNat = true) := hide (by rw [← HX.out]; unfold okP; exact decide_eq_true (by omega))
        have HG := hide g
        clear g
        go_wp2
        go_round
        case rel =>
          refine ⟨k + 1, by omega, by go_num, hide (fun j hj => ?_)⟩
          by_cases e : j = k
          · rw [e]; exact HO.out
          · exact hf.out j (by omega)
        case measure => simp [intOf]; omega
      · have a1 : decide ((97 : Int) ≤ (x : Int)) = false := decide_eq_false (by omega)
        have a2 : decide ((x : Int) ≤ 122) = true := decide_eq_true (by omega)
        have a3 : decide ((48 : Int) ≤ (x : Int)) = true := decide_eq_true (by omega)
        have a4 : decide ((x : Int) ≤ 57) = false := decide_eq_false (by omega)
        have a5 : ((x : Int) == 47) = false := by rw [beq_eq_false_iff_ne]; omega
        have a6 : ((x : Int) == 45) = false := by rw [beq_eq_false_iff_ne]; omega
        have HO : Hid (okP (s.get! k).toNat = false) := hide (by rw [← HX.out]; unfold okP; exact decide_eq_false (by omega))
        have HG := hide g
        clear g
        go_wp2
        go_ret
        exact ⟨by rw [HB.out HO.out]; rfl, rfl⟩
      · have a1 : decide ((97 : Int) ≤ (x : Int)) = true := decide_eq_true (by omega)
        have a2 : decide ((x : Int) ≤ 122) = true := decide_eq_true (by omega)
        have a3 : decide ((48 : Int) ≤ (x : Int)) = true := decide_eq_true (by omega)
        have a4 : decide ((x : Int) ≤ 57) = false := decide_eq_false (by omega)
        have a5 : ((x : Int) == 47) = false := by rw [beq_eq_false_iff_ne]; omega
        have a6 : ((x : Int) == 45) = false := by rw [beq_eq_false_iff_ne]; omega
        have HO : Hid (okP (s.get! k).toNat = true) := hide (by rw [← HX.out]; unfold okP; exact decide_eq_true (by omega))
        have HG := hide g
        clear g
        go_wp2
        go_round
        case rel =>
          refine ⟨k + 1, by omega, by go_num, hide (fun j hj => ?_)⟩
          by_cases e : j = k
          · rw [e]; exact HO.out
          · exact hf.out j (by omega)
        case measure => simp [intOf]; omega
      · have a1 : decide ((97 : Int) ≤ (x : Int)) = true := decide_eq_true (by omega)
        have a2 : decide ((x : Int) ≤ 122) = false := decide_eq_false (by omega)
        have a3 : decide ((48 : Int) ≤ (x : Int)) = true := decide_eq_true (by omega)
        have a4 : decide ((x : Int) ≤ 57) = false := decide_eq_false (by omega)
        have a5 : ((x : Int) == 47) = false := by rw [beq_eq_false_iff_ne]; omega
        have a6 : ((x : Int) == 45) = false := by rw [beq_eq_false_iff_ne]; omega
        have HO : Hid (okP (s.get! k).toNat = false) := hide (by rw [← HX.out]; unfold okP; exact decide_eq_false (by omega))
        have HG := hide g
        clear g
        go_wp2
        go_ret
        exact ⟨by rw [HB.out HO.out]; rfl, rfl⟩
    · have HI := hide (pathOk_good (s := s) (k := k) (by omega) hf.out)
      rcases Nat.lt_or_ge k s.size with h1 | h1
      · have h2 : ¬ k < 30 := by omega
        clear hlt
        rcases Nat.lt_or_ge 24 s.size with h3 | h3
        · have t1 : decide ((1 : Int) ≤ (s.size : Int)) = true := decide_eq_true (by omega)
          have t2 : decide ((s.size : Int) ≤ 24) = false := decide_eq_false (by omega)
          have HR : Hid (pathOk s = false) := hide (pathOk_long h3)
          clear h3
          go_wp2
          go_ret
          exact ⟨by rw [HR.out]; rfl, rfl⟩
        · exact absurd h1 (by omega)
      · have h2 : ¬ k < s.size := by omega
        clear hlt h1
        by_cases h4 : 1 ≤ s.size
        · have t1 : decide ((1 : Int) ≤ (s.size : Int)) = true := decide_eq_true (by omega)
          by_cases h3 : s.size ≤ 24
          · have t2 : decide ((s.size : Int) ≤ 24) = true := decide_eq_true (by omega)
            have HR : Hid (pathOk s = true) := hide (by rw [HI.out, decide_eq_true h4, decide_eq_true h3]; rfl)
            clear h3 h4
            go_wp2
            go_ret
            exact ⟨by rw [HR.out]; rfl, rfl⟩
          · have t2 : decide ((s.size : Int) ≤ 24) = false := decide_eq_false (by omega)
            have HR : Hid (pathOk s = false) := hide (by rw [HI.out, decide_eq_false h3, Bool.and_false])
            clear h3 h4
            go_wp2
            go_ret
            exact ⟨by rw [HR.out]; rfl, rfl⟩
        · have t1 : decide ((1 : Int) ≤ (s.size : Int)) = false := decide_eq_false (by omega)
          have HR : Hid (pathOk s = false) := hide (by rw [HI.out, decide_eq_false h4]; rfl)
          clear h4
          go_wp2
          go_ret
          exact ⟨by rw [HR.out]; rfl, rfl⟩
end

section
open Go.RowKit

/-! ### a snapshot as a value of its own -/
section
variable {w : World} {b : Nat} {v0 v1 v2 v3 v4 v5 v6 : Value}
end
end

section
open Go.RowKit

end

section
open Go.RowKit

theorem own_grown {w w' : World} {base base2 sz sz2 n n2 : Nat} {e e2 : TypeId} {v v2 : Value} {xs xs2 : List Value} (h : w.ownsRow base e sz v n xs) (ho : w.ownsRow base2 e2 sz2 v2 n2 xs2) (hg : w.grownBy w' v2.ownBlock) (hne : e ≠ e2) : w'.ownsRow base e sz v n xs := by
  refine h.kept hg ?_
  rcases h.2 with ⟨rfl, _⟩ | ⟨g, cap, cur, rfl, _, hc, _⟩
  · exact .inl rfl
  · refine .inr fun q => ?_
    rcases ho.2 with ⟨rfl, _⟩ | ⟨g2, cap2, cur2, rfl, _, hc2, _⟩
    · cases q
    · simp only [Value.ownBlock] at q
      injection q with q
      subst q
      rw [hc] at hc2
      injection hc2 with hc2
      injection hc2 with _ q2 _
      exact hne q2
theorem rd_own {w : World} {B sz n c : Nat} {e : TypeId} {A : Option Addr} {xs : List Value} (h : w.ownsRow B e sz (.slice A n c) n xs) : Rd w w.heap.size sz A n c xs := by
  obtain ⟨A', c', q, hr⟩ := Rd.of_own h
  injection q with q1 q2 q3
  subst q1 q3
  exact hr
section
variable {w w' : World} {B sc nc : Nat} {sA nA : Option Addr} {ss : List Sl} {ns : List Nl}
end
/-! ### words for regions -/
/-! ### a table as a value -/
section
variable {w : World} {b : Nat} {v0 v1 v2 : Value}
end
end

section
open Go.RowKit

section
variable {w w' : World} {B sz g n c : Nat} {e : TypeId} {xs : List Value}
end
end

section
section

end
end

section
open Go.RowKit

/-- a box whose block's type is known -/
structure BoxT (w : World) (b : Nat) (cs : List Value) (t : TypeId) : Prop where
  bx : BoxN w b cs
  ty : ∃ arr, w.heap[b]? = some (.cells arr t (0, 0))
section
variable {w w' : World} {b : Nat} {cs : List Value} {t : TypeId}
theorem BoxT.keep (h : BoxT w b cs t) (hb : Below w.heap.size w w') : BoxT w' b cs t := by
  obtain ⟨arr, ha⟩ := h.ty
  exact ⟨h.bx.keep hb h.bx.z, arr, (hb.block b h.bx.z).trans ha⟩
end
end

section
open Go.RowKit

/-- what the boxes hold -/
structure FindB (w : World) (bx b7 b9 b11 : Nat) (sA : Option Addr) (sc : Nat) (ss : List Sl) (nA : Option Addr) (nc : Nat) (ns : List Nl) (cur : Nat) (q1 : Sn) (A1 : Option Addr) (c1 : Nat) (q2 : Sn) (A2 : Option Addr) (c2 : Nat) (sid : UInt32) (sfs : List Fd) (F : Option Addr) (fc : Nat) : Prop where
  X : BoxN w bx #[.slice sA ss.length sc, .slice nA ns.length nc, .int .u64 (cur : Int)].toList
  Y1 : BoxN w b7 #[.int .u64 (q1.id.toNat : Int), .int .u64 (q1.par.toNat : Int), .int .u64 (q1.seq.toNat : Int), .int .u64 (q1.off.toNat : Int), .int .u64 (q1.tim.toNat : Int), .int .u32 (q1.sch.toNat : Int), .slice A1 q1.ms.length c1].toList
  Y2 : BoxN w b9 #[.int .u64 (q2.id.toNat : Int), .int .u64 (q2.par.toNat : Int), .int .u64 (q2.seq.toNat : Int), .int .u64 (q2.off.toNat : Int), .int .u64 (q2.tim.toNat : Int), .int .u32 (q2.sch.toNat : Int), .slice A2 q2.ms.length c2].toList
  Y3 : BoxN w b11 [.int .u32 (sid.toNat : Int), .slice F sfs.length fc]
  T : TabR w w.heap.size sA sc ss nA nc ns
  r1 : Rd w w.heap.size 1 A1 q1.ms.length c1 (strsV q1.ms)
  r2 : Rd w w.heap.size 1 A2 q2.ms.length c2 (strsV q2.ms)
  r3 : Rd w w.heap.size 4 F sfs.length fc (fdsV sfs)
section
variable {w w' : World} {bx b7 b9 b11 : Nat} {sA : Option Addr} {sc : Nat} {ss : List Sl} {nA : Option Addr} {nc : Nat} {ns : List Nl} {cur : Nat} {q1 : Sn} {A1 : Option Addr} {c1 : Nat} {q2 : Sn} {A2 : Option Addr} {c2 : Nat} {sid : UInt32} {sfs : List Fd} {F : Option Addr} {fc : Nat}
theorem FindB.keep (h : FindB w bx b7 b9 b11 sA sc ss nA nc ns cur q1 A1 c1 q2 A2 c2 sid sfs F fc) (hb : Below w.heap.size w w') : FindB w' bx b7 b9 b11 sA sc ss nA nc ns cur q1 A1 c1 q2 A2 c2 sid sfs F fc :=
  ⟨h.X.keep hb h.X.z, h.Y1.keep hb h.Y1.z, h.Y2.keep hb h.Y2.z, h.Y3.keep hb h.Y3.z, h.T.later hb, (h.r1.below hb).more hb.size, (h.r2.below hb).more hb.size, (h.r3.below hb).more hb.size⟩
end
end

section
open Go.RowKit

section
variable {w : World} {B sz g n c : Nat} {e : TypeId} {xs : List Value}
end
end

section
open Go.RowKit

end

section
open Go.RowKit

end

section
open Go.RowKit

theorem TabR.nil (w : World) (B : Nat) : TabR w B none 0 [] none 0 [] := ⟨Rd.nil _ _ _, by simp, Rd.nil _ _ _, by simp⟩
theorem own_slice {w : World} {base sz n : Nat} {e : TypeId} {v : Value} {xs : List Value} (h : w.ownsRow base e sz v n xs) : ∃ A c, v = .slice A n c := by
  obtain ⟨A, c, e, _⟩ := Rd.of_own h
  exact ⟨A, c, e⟩
end

section
theorem getD_at {α : Type} (l : List α) (d : α) {i : Nat} (h : i < l.length) : l.getD i d = l[i] := by
  rw [List.getD, List.getElem?_eq_getElem h]
  rfl
def RN (a b : Sn) : Prop := a.id.toNat < b.id.toNat ∧ a.seq.toNat ≤ b.seq.toNat ∧ a.off.toNat ≤ b.off.toNat ∧ a.tim.toNat ≤ b.tim.toNat ∧ a.sch.toNat ≤ b.sch.toNat
theorem RN.trans {a b c : Sn} (h : RN a b) (k : RN b c) : RN a c := by
  unfold RN at *
  omega
end

section
open Go.RowKit

section
variable {w w' : World} {e : Ending}
end
/-- a table in a box -/
structure TBox (w : World) (b : Nat) (sA : Option Addr) (sc : Nat) (ss : List Sl) (nA : Option Addr) (nc : Nat) (ns : List Nl) (cu : Nat) : Prop where
  bx : BoxN w b #[.slice sA ss.length sc, .slice nA ns.length nc, .int .u64 (cu : Int)].toList
  tab : TabR w w.heap.size sA sc ss nA nc ns
section
variable {w w' : World} {b : Nat} {sA : Option Addr} {sc : Nat} {ss : List Sl} {nA : Option Addr} {nc : Nat} {ns : List Nl} {cu : Nat}
theorem TBox.keep (h : TBox w b sA sc ss nA nc ns cu) (hb : Below w.heap.size w w') : TBox w' b sA sc ss nA nc ns cu := ⟨h.bx.keep hb h.bx.z, h.tab.later hb⟩
end
/-- the law's arguments in their boxes -/
structure StepB (w : World) (b4 b5 b6 : Nat) (sA : Option Addr) (sc : Nat) (ss : List Sl) (nA : Option Addr) (nc : Nat) (ns : List Nl) (cur : Nat) (p : Sn) (pA : Option Addr) (pc : Nat) (sid : UInt32) (sfs : List Fd) (fA : Option Addr) (fc : Nat) (ids : List UInt64) (iA : Option Addr) (ic : Nat) : Prop where
  t : TBox w b4 sA sc ss nA nc ns cur
  s : BoxN w b5 #[.int .u64 (p.id.toNat : Int), .int .u64 (p.par.toNat : Int), .int .u64 (p.seq.toNat : Int), .int .u64 (p.off.toNat : Int), .int .u64 (p.tim.toNat : Int), .int .u32 (p.sch.toNat : Int), .slice pA p.ms.length pc].toList
  h : BoxN w b6 [.int .u32 (sid.toNat : Int), .slice fA sfs.length fc]
  rs : Rd w w.heap.size 1 pA p.ms.length pc (strsV p.ms)
  rh : Rd w w.heap.size 4 fA sfs.length fc (fdsV sfs)
  ri : Rd w w.heap.size 1 iA ids.length ic (u64sV ids)
section
variable {w w' : World} {b4 b5 b6 : Nat} {sA : Option Addr} {sc : Nat} {ss : List Sl} {nA : Option Addr} {nc : Nat} {ns : List Nl} {cur : Nat} {p : Sn} {pA : Option Addr} {pc : Nat} {sid : UInt32} {sfs : List Fd} {fA : Option Addr} {fc : Nat} {ids : List UInt64} {iA : Option Addr} {ic : Nat}
theorem StepB.keep (q : StepB w b4 b5 b6 sA sc ss nA nc ns cur p pA pc sid sfs fA fc ids iA ic) (hb : Below w.heap.size w w') : StepB w' b4 b5 b6 sA sc ss nA nc ns cur p pA pc sid sfs fA fc ids iA ic :=
  ⟨q.t.keep hb, q.s.keep hb q.s.z, q.h.keep hb q.h.z, (q.rs.below hb).more hb.size, (q.rh.below hb).more hb.size, (q.ri.below hb).more hb.size⟩
end
end

section
open Go.ChangeShapes Go.WideShapes Go.ChangeAt Go.RowKit
open Go.ChangeMaps (open_string shut_string)

theorem rd_row {k : IntKind} {w : World} {x : Addr} {len cap : Nat} {zs : List Int} (hl : len ≤ cap) (hm : cap ≤ maxLen) (hz : zs.length = cap)
    (hcell : ∀ i, i < zs.length → w.cell? (x.add i) = some (.int k (zs.getD i 0))) : Rd w w.heap.size 1 (some x) len cap ((zs.take len).map (.int k)) := by
  refine ⟨by simp; omega, hl, hm, fun hn => ?_⟩
  obtain ⟨b, off, spot⟩ := x
  have h0 := hcell 0 (by omega)
  have hspot : spot = none := by simpa [Addr.add] using World.cell?_spot h0
  subst hspot
  refine ⟨b, off, rfl, ?_, fun j u hu => ?_⟩
  · exact World.block_lt_of_cell? w _ h0
  · have hj : j < len := by
      have := (List.getElem?_eq_some_iff.1 hu).1
      simp at this
      omega
    have h1 := hcell j (by omega)
    rw [Addr.add_lit] at h1
    rw [h1]
    simp [hj, show j < zs.length by omega] at hu
    simp [List.getD, show j < zs.length by omega, hu]

section
variable {H : Type} {enc : TypeId × Value → H} {P : Program} {W : World} {t e : TypeId} {k : IntKind} {v : Value} {d : DataW H} {ps : List MemPlace} {r : Reach} {base : Nat}
/-- a slice of integers that came in -/
theorem frame_ints (ht : P.underlying t = some (.slice e)) (he : P.underlying e = some (.int k)) (hc : P.cellsOf e = 1) (hv : Value.okWide P W r base t v)
    (h : DataW.Trod enc P W 0 (fun _ => true) true t v d ps) :
    ∃ (A : Option Addr) (n c : Nat) (zs : List Int), v = .slice A n c ∧ Rd W W.heap.size 1 A n c (zs.map (.int k)) ∧ (∀ z ∈ zs, (Lit.int k z).wf = true) ∧
      (n = 0 ∨ ∃ elems spare, d = .slice elems spare ∧ n ≤ elems.length + spare.length) := by
  obtain ⟨A, n, c, rfl⟩ := okWide_slice ht hv
  obtain ⟨fuel, hf⟩ := h
  rcases open_ints ht he hc hf with ⟨hcs, _⟩ | ⟨x, l, cp, zs, hcs, _, hl, hm, hz, hx, hcell, hwz⟩
  · simp [Value.cells] at hcs
    obtain ⟨rfl, rfl, rfl⟩ := hcs
    exact ⟨_, _, _, [], rfl, Rd.nil _ _ _, by simp, .inl rfl⟩
  · simp [Value.cells] at hcs
    obtain ⟨rfl, rfl, rfl⟩ := hcs
    have hz' : zs.length = c := by simpa using hz
    refine ⟨_, _, _, zs.take n, rfl, rd_row hl hm hz' hcell, fun z hz => hwz z (List.mem_of_mem_take hz), .inr ?_⟩
    simp only [Prod.mk.injEq] at hx
    exact ⟨_, _, hx.1, by simp [Go.ChangeShapes.lits]; omega⟩
/-- a slice of bytes that came in -/
theorem frame_bytes (ht : P.underlying t = some (.slice e)) (he : P.underlying e = some (.int .u8)) (hc : P.cellsOf e = 1) (hv : Value.okWide P W r base t v)
    (h : DataW.Trod enc P W 0 (fun _ => true) true t v d ps) :
    ∃ (A : Option Addr) (n c : Nat) (l : List UInt8), v = .slice A n c ∧ Rd W W.heap.size 1 A n c (bytesV l) ∧
      (n = 0 ∨ ∃ elems spare, d = .slice elems spare ∧ n ≤ elems.length + spare.length) := by
  obtain ⟨A, n, c, zs, rfl, hr, hwf, hd⟩ := frame_ints ht he hc hv h
  refine ⟨A, n, c, zs.map fun z => UInt8.ofNat z.toNat, rfl, ?_, hd⟩
  have e : bytesV (zs.map fun z => UInt8.ofNat z.toNat) = zs.map (.int .u8) := by
    unfold bytesV
    rw [List.map_map]
    refine List.map_congr_left fun z hz => ?_
    have := bounds_u8 (hwf z hz)
    simp only [Function.comp, byteV]
    congr 1
    rw [UInt8.toNat_ofNat_of_lt' (by simp [UInt8.size]; omega)]
    omega
  rw [e]
  exact hr
end
end

section
open Go.ChangeShapes Go.WideShapes Go.ChangeAt Go.RowKit Go.Deep Go.Joins

section
variable {H : Type} {enc : TypeId × Value → H} {w : World} {base : Nat} {spare : Nat → Bool} {held : Bool} {fuel : Nat}
end
end

section
open Go.RowKit

end

section
open Go.RowKit

end

section
end

section
open Go.RowKit

end

section
namespace Crc
abbrev W := BitVec 32
def poly : W := 0xedb88320#32
def bit (c : W) : W := (c >>> 1) ^^^ (if c.getLsbD 0 then poly else 0#32)
def bits : Nat → W → W
  | 0, c => c
  | n + 1, c => bits n (bit c)
def byteS (c : W) (x : UInt8) : W := bits 8 (c ^^^ BitVec.ofNat 32 x.toNat)
def raw (c : W) (l : List UInt8) : W := l.foldl byteS c
def more (c : W) (l : List UInt8) : W := ~~~ (raw (~~~ c) l)
/-! ### differences -/
end Crc
end

section
open Go.RowKit

end

section
open Go.RowKit

theorem cloneBytes (w : World) (B n c : Nat) (A : Option Addr) (xs : List Value) (hr : Rd w B 1 A n c xs) (h1 : ∀ u ∈ xs, u.oneCell' = true) (hb : n * 1 ≤ 140737488355328) (hB : B ≤ w.heap.size) :
    Calls Try.prog 25 #[.slice A n c] w (RetRow w 5 1 n xs) := by
  have heq := fun W => Lib.run_eql_slice_nil (P := Try.prog) W 22 5 A n c 0 0 Try.underlying22
  cases A with
  | none =>
    obtain ⟨rfl, rfl⟩ := hr.none_
    go_enter Try.func25, Try.ntmps25
    go_wp2_with fail
    go_ret
    exact ⟨_, rfl, World.ownsRow_nil _ _ _ _, Below.refl _ _⟩
  | some ad =>
    have hlit := own_lit w (base := w.heap.size) 5 1 0 #[] (Nat.le_refl _) (by decide) rfl
    have hr' := hr.alloc hB (.cells #[] 5)
    go_enter Try.func25, Try.ntmps25
    go_wp2_with (at_builtin; refine wpList_app _ tyBytes rfl _ _ rfl w.heap.size _ 0 [] rfl hlit B (some ad) _ c _ rfl hr' h1 (by omega) (by simp) ?_; intro v2 w2 hown2 hg2 _; simp only [Nat.zero_add, List.nil_append] at hown2; have hb2 := below_app ((Below.refl w.heap.size w).alloc (Nat.le_refl _) (.cells #[] 5)) (Nat.le_refl _) hlit hg2 (by simp))
    go_ret
    exact ⟨v2, rfl, hown2, hb2⟩

end

section
open Go.RowKit

end

section
open Go.RowKit

end

section
open Go.RowKit

end

section
open Go.RowKit
section
variable {w6 wr : World} {b bf c c2 : Nat} {A A2 : Option Addr} {l l2 : List UInt8} {fid : UInt32} {s0 nm : ByteArray}
end
end
end

section
open Go.RowKit

/-! ### plain -/
/-! ### bytes in certain blocks -/
structure RdP (w : World) (P : Nat → Prop) (A : Option Addr) (n c : Nat) (l : List UInt8) : Prop where
  rd : Rd w w.heap.size 1 A n c (bytesV l)
  at_ : 0 < n → ∃ b off, A = some ⟨b, off, none⟩ ∧ P b
section
variable {w w' : World} {P Q : Nat → Prop} {A : Option Addr} {n c : Nat} {l : List UInt8}
theorem RdP.keep (h : RdP w P A n c l) (hsz : w.heap.size ≤ w'.heap.size) (hk : ∀ p : Addr, P p.block → p.block < w.heap.size → w'.cell? p = w.cell? p) : RdP w' P A n c l :=
  ⟨⟨h.rd.len, h.rd.le, h.rd.cap, fun hn => by
    obtain ⟨b, off, e, hb, hc⟩ := h.rd.at_ hn
    obtain ⟨b2, off2, e2, hp⟩ := h.at_ hn
    rw [e] at e2
    injection e2 with e2
    injection e2 with e2 _
    subst e2
    exact ⟨b, off, e, Nat.lt_of_lt_of_le hb hsz, fun j u hu => (hk ⟨b, off + j, none⟩ hp hb).trans (hc j u hu)⟩⟩, h.at_⟩
theorem RdP.imp (h : RdP w P A n c l) (hi : ∀ k, P k → k < w.heap.size → Q k) : RdP w Q A n c l :=
  ⟨h.rd, fun hn => by
    obtain ⟨b, off, e, hb, hc⟩ := h.rd.at_ hn
    obtain ⟨b2, off2, e2, hp⟩ := h.at_ hn
    rw [e] at e2
    injection e2 with e2
    injection e2 with e2 _
    subst e2
    exact ⟨b, off, e, hi b hp hb⟩⟩
theorem RdP.of {B : Nat} (h : Rd w B 1 A n c (bytesV l)) (hB : B ≤ w.heap.size) (hi : ∀ k, k < B → P k) : RdP w P A n c l :=
  ⟨h.more hB, fun hn => by
    obtain ⟨b, off, e, hb, hc⟩ := h.at_ hn
    exact ⟨b, off, e, hi b hb⟩⟩
theorem RdP.own {base : Nat} (h : w.ownsRow base 5 1 (.slice A n c) n (bytesV l)) (hi : ∀ k, base ≤ k → P k) : RdP w P A n c l := by
  obtain ⟨A', c', q, hr⟩ := Rd.of_own h
  injection q with q1 q2 q3
  subst q1 q3
  refine ⟨hr, fun hn => ?_⟩
  obtain ⟨g, cap, q, hb, _⟩ := h.form hn
  injection q with q1 _ _
  exact ⟨g, 0, q1, hi g hb⟩
theorem RdP.lo (h : RdP w P A l.length c l) {lo : Nat} (hlo : lo ≤ l.length) : ∃ A2 l2, l2 = l.drop lo ∧
    (∀ k W, (Instr.sliceAt 22 (.slice A l.length c) (some (.int k (lo : Int))) none none).run Try.prog W = .ok (.slice A2 l2.length (c - lo)) W) ∧
    (∀ k W, (Instr.slice 22 (.slice A l.length c) (some (.int k (lo : Int))) none none).run Try.prog W = .ok (.slice A2 l2.length (c - lo)) W) ∧ RdP w P A2 l2.length (c - lo) l2 := by
  have hr := h.rd
  refine ⟨(if c = lo then A else A.map (·.add (lo * 1))), l.drop lo, rfl, fun k W => ?_, fun k W => ?_, ?_, ?_⟩
  · rw [List.length_drop]; exact cut_lo tyBytes A l.length c k (lo : Int) lo rfl hlo hr.le W
  · rw [List.length_drop]; exact run_cut_lo tyBytes A l.length c k (lo : Int) lo rfl hlo hr.le W
  · have := hr.cut hlo (Nat.le_refl _)
    rw [List.length_drop]
    rw [List.take_of_length_le (by simp [bytesV])] at this
    simpa [bytesV, List.map_drop] using this
  · intro hn
    rw [List.length_drop] at hn
    have hle := hr.le
    obtain ⟨b, off, e, hp⟩ := h.at_ (by omega)
    refine ⟨b, off + lo * 1, ?_, hp⟩
    rw [if_neg (by omega), e]
    simp [Addr.add_lit]
end
/-! ### the reader's box -/
section
variable {w w' : World} {b c B : Nat} {P Q : Nat → Prop} {A : Option Addr} {l : List UInt8} {e : Bool}
theorem cell_else {p q : Addr} (hne : q.block ≠ p.block) (x : Value) : (w.setCell p x).cell? q = w.cell? q ∧ (w.setCell p x).frozen? q = w.frozen? q := by
  have hb : (w.setCell p x).heap[q.block]? = w.heap[q.block]? := Below.heap_setCell _ _ _ _ hne
  exact ⟨World.cell?_of_block (w := w) hb, World.frozen?_of_block (w := w) hb⟩
end
end

section
open Go.RowKit

/-- a cell -/
structure Ce where
  kind : UInt8
  n : Int64
  s : ByteArray
instance : Inhabited Ce := ⟨⟨0, 0, ByteArray.empty⟩⟩
/-- a statistic -/
structure St where
  rows : Int64
  nulls : Int64
  som : Bool
  high : Bool
  mn : Ce
  mx : Ce
instance : Inhabited St := ⟨⟨0, 0, false, false, default, default⟩⟩
/-! ### which may be -/
theorem bytes_same {a b : ByteArray} (h : a.toList = b.toList) : a = b := by
  rw [ByteArray.toList_eq, ByteArray.toList_eq] at h
  cases a; cases b
  simp only [ByteArray.mk.injEq]
  exact Array.toList_inj.1 h
/-! ### bytes -/
section
variable {α : Type} {f : α → List UInt8} {l : List α} {k : Nat}
end
/-! ### what holds of those that may be -/
end

section
open Go.RowKit

theorem flat_len {α : Type} (enc : α → List Value) (k : Nat) (hk : ∀ a, (enc a).length = k) (l : List α) : (l.flatMap enc).length = l.length * k := by
  induction l with
  | nil => simp
  | cons a l ih => rw [List.flatMap_cons, List.length_append, ih, hk, List.length_cons, Nat.succ_mul]; omega
theorem Rd.lenA {α : Type} (enc : α → List Value) (k : Nat) (hk : ∀ a, (enc a).length = k) {w : World} {B n c : Nat} {A : Option Addr} {l : List α} (h : Rd w B k A n c (l.flatMap enc)) (hk0 : 0 < k) : n = l.length := by
  have := h.len
  rw [flat_len enc k hk] at this
  exact (Nat.eq_of_mul_eq_mul_right hk0 this).symm

def stV (s : St) : List Value := [.int .i64 s.rows.toInt, .int .i64 s.nulls.toInt, .bool s.som, .bool s.high, .int .u8 (s.mn.kind.toNat : Int), .int .i64 s.mn.n.toInt, .string s.mn.s, .int .u8 (s.mx.kind.toNat : Int), .int .i64 s.mx.n.toInt, .string s.mx.s]
def stsV (l : List St) : List Value := l.flatMap stV
theorem stV_length (s : St) : (stV s).length = 10 := rfl
section
variable {w w' : World} {B n c : Nat} {A : Option Addr}
theorem Rd.lenT {l : List St} (h : Rd w B 10 A n c (stsV l)) : n = l.length := h.lenA stV 10 stV_length (by omega)
end
section
variable {w w' : World} {B c : Nat} {A : Option Addr}
end
end

section
open Go.RowKit

theorem pathOk_short {s : ByteArray} (h : s.size < 1) : pathOk s = false := by unfold pathOk; rw [decide_eq_false (by omega)]; rfl
theorem pathOk_mid {s : ByteArray} (h : 1 ≤ s.size) (h2 : s.size ≤ 24) : pathOk s = allFrom s (pathAt s) s.size 0 := by unfold pathOk; rw [decide_eq_true h, decide_eq_true h2]; rfl
end

section
open Go.RowKit

theorem kStr : Maps.Keyed Try.prog 9 := Maps.string_keyed Try.underlying9
section
variable {w w' : World} {b : Nat} {names : List ByteArray}
end
/-! ### a map's block turns, and others stay -/
section
variable {w w' : World} {b mb B c : Nat} {A : Option Addr} {l : List UInt8}
end
end

section
open Go.RowKit

theorem below_dN {B : Nat} {a w : World} (h : Below B a w) (n : Nat) : Below B a (w.drewN n) := ⟨h.os, h.tape, h.output, h.size, h.block⟩
end
end Go.Proofs.Ytbgfmcmaklobaaa
