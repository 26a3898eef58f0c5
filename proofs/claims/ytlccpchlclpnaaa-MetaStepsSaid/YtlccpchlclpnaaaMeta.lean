/- WORDS OF TABLES: snapshots and schemas that lie in rows, with rows of their own; the first place at which a thing holds. No statement of the seat is proved here; no condition. -/
import Derived.Test.YtlccpchlclpnaaaGrowW
import Derived.Test.YtlccpchlclpnaaaBoxN
import Derived.Test.YtlccpchlclpnaaaSchF
namespace Go.Proofs.Ytlccpchlclpnaaa
open Go.RowKit

/-! ### the first place -/
def ixA {α : Type} (p : α → Bool) (l : List α) : Int := if l.any p then (l.findIdx p : Int) else -1
theorem ixA_ge {α : Type} {p : α → Bool} {l : List α} : decide ((0 : Int) ≤ ixA p l) = l.any p := by
  unfold ixA
  cases l.any p <;> simp
section
variable {α : Type} [Inhabited α] {p : α → Bool} {l : List α}
theorem ixA_hit {k : Nat} (hk : k < l.length) (h : p (l.getD k default) = true) (hn : ∀ j, j < k → p (l.getD j default) = false) : ixA p l = (k : Int) := by
  have hk' : p l[k] = true := by simpa [List.getD, hk] using h
  have ha : l.any p = true := List.any_eq_true.2 ⟨l[k], List.getElem_mem hk, hk'⟩
  unfold ixA
  rw [if_pos ha]
  congr 1
  rw [List.findIdx_eq hk]
  refine ⟨hk', fun j hj => ?_⟩
  have := hn j hj
  simpa [List.getD, show j < l.length by omega] using this
theorem anyA_none (h : ∀ j, j < l.length → p (l.getD j default) = false) : l.any p = false := by
  rw [List.any_eq_false]
  intro f hf
  obtain ⟨j, hj, rfl⟩ := List.mem_iff_getElem.1 hf
  have := h j hj
  simp [List.getD, hj] at this
  simp [this]
theorem ixA_none (h : ∀ j, j < l.length → p (l.getD j default) = false) : ixA p l = -1 := by
  unfold ixA
  rw [anyA_none h]
  rfl
theorem ixA_at {i : Int} (h : ixA p l = i) (h0 : 0 ≤ i) : i.toNat < l.length ∧ i = (i.toNat : Int) ∧ p (l.getD i.toNat default) = true := by
  unfold ixA at h
  split at h
  · rename_i ha
    have hl := List.findIdx_lt_length_of_exists (p := p) (xs := l) (by simpa using ha)
    subst h
    refine ⟨by simpa using hl, by simp, ?_⟩
    rw [Int.toNat_natCast]
    have := List.findIdx_getElem (p := p) (xs := l) (w := hl)
    simpa [List.getD, hl] using this
  · omega
end

/-! ### rows of structs -/
theorem flat_get {α : Type} (enc : α → List Value) (k : Nat) (hk : ∀ a, (enc a).length = k) : ∀ (l : List α) (i j : Nat) (hi : i < l.length), j < k → (l.flatMap enc)[i * k + j]? = (enc l[i])[j]?
  | a :: l, 0, j, _, hj => by
    rw [List.flatMap_cons, List.getElem?_append_left (by rw [hk]; omega)]
    simp
  | a :: l, i + 1, j, hi, hj => by
    rw [List.flatMap_cons, List.getElem?_append_right (by rw [hk]; rw [Nat.succ_mul]; omega), hk]
    rw [show (i + 1) * k + j - k = i * k + j by rw [Nat.succ_mul]; omega]
    exact flat_get enc k hk l i j (by simpa using hi) hj
theorem flat_len {α : Type} (enc : α → List Value) (k : Nat) (hk : ∀ a, (enc a).length = k) (l : List α) : (l.flatMap enc).length = l.length * k := by
  induction l with
  | nil => simp
  | cons a l ih => rw [List.flatMap_cons, List.length_append, ih, hk, List.length_cons, Nat.succ_mul]; omega
theorem Rd.el {α : Type} [Inhabited α] (enc : α → List Value) (k : Nat) (hk : ∀ a, (enc a).length = k) {w : World} {B n c : Nat} {A : Option Addr} {l : List α} (h : Rd w B k A n c (l.flatMap enc)) {i : Nat} (hi : i < l.length) (hk0 : 0 < k) :
    ∃ b off, A = some ⟨b, off, none⟩ ∧ b < B ∧ ∀ j v, (enc (l.getD i default))[j]? = some v → w.cell? ⟨b, off + i * k + j, none⟩ = some v := by
  have hn : n = l.length := by
    have := h.len
    rw [flat_len enc k hk] at this
    exact (Nat.eq_of_mul_eq_mul_right hk0 this).symm
  obtain ⟨b, off, rfl, hb, hc⟩ := h.at_ (by omega)
  refine ⟨b, off, rfl, hb, fun j v hj => ?_⟩
  rw [Nat.add_assoc]
  refine hc _ v ?_
  have hjk : j < k := by
    have := (List.getElem?_eq_some_iff.1 hj).1
    rw [hk] at this
    exact this
  rw [flat_get enc k hk l i j hi hjk, ← hj]
  simp [List.getD, hi]
theorem Rd.lenA {α : Type} (enc : α → List Value) (k : Nat) (hk : ∀ a, (enc a).length = k) {w : World} {B n c : Nat} {A : Option Addr} {l : List α} (h : Rd w B k A n c (l.flatMap enc)) (hk0 : 0 < k) : n = l.length := by
  have := h.len
  rw [flat_len enc k hk] at this
  exact (Nat.eq_of_mul_eq_mul_right hk0 this).symm

/-! ### snapshots, schemas -/
structure Sn where
  id : UInt64
  par : UInt64
  seq : UInt64
  off : UInt64
  tim : UInt64
  sch : UInt32
  ms : List ByteArray
instance : Inhabited Sn := ⟨⟨0, 0, 0, 0, 0, 0, []⟩⟩
structure Nl where
  p : Sn
  A : Option Addr
  c : Nat
instance : Inhabited Nl := ⟨⟨default, none, 0⟩⟩
structure Sl where
  id : UInt32
  fs : List Fd
  A : Option Addr
  c : Nat
instance : Inhabited Sl := ⟨⟨0, [], none, 0⟩⟩
def nlV (s : Nl) : List Value := [.int .u64 (s.p.id.toNat : Int), .int .u64 (s.p.par.toNat : Int), .int .u64 (s.p.seq.toNat : Int), .int .u64 (s.p.off.toNat : Int), .int .u64 (s.p.tim.toNat : Int), .int .u32 (s.p.sch.toNat : Int), .slice s.A s.p.ms.length s.c]
def nlsV (l : List Nl) : List Value := l.flatMap nlV
def slV (s : Sl) : List Value := [.int .u32 (s.id.toNat : Int), .slice s.A s.fs.length s.c]
def slsV (l : List Sl) : List Value := l.flatMap slV
theorem nlV_length (s : Nl) : (nlV s).length = 7 := rfl
theorem slV_length (s : Sl) : (slV s).length = 2 := rfl
theorem nlsV_append (a b : List Nl) : nlsV (a ++ b) = nlsV a ++ nlsV b := by simp [nlsV]
theorem slsV_append (a b : List Sl) : slsV (a ++ b) = slsV a ++ slsV b := by simp [slsV]
theorem one_slice (A : Option Addr) (n c : Nat) : (Value.slice A n c).oneCell' = true := rfl
theorem nlV_one (s : Nl) : ∀ u ∈ nlV s, u.oneCell' = true := by
  intro u hu
  simp [nlV] at hu
  rcases hu with rfl | rfl | rfl | rfl | rfl | rfl | rfl <;> rfl
theorem nlsV_one (l : List Nl) : ∀ u ∈ nlsV l, u.oneCell' = true := by
  intro u hu
  obtain ⟨s, _, hs⟩ := List.mem_flatMap.1 hu
  exact nlV_one s u hs
theorem slV_one (s : Sl) : ∀ u ∈ slV s, u.oneCell' = true := by
  intro u hu
  simp [slV] at hu
  rcases hu with rfl | rfl <;> rfl
theorem slsV_one (l : List Sl) : ∀ u ∈ slsV l, u.oneCell' = true := by
  intro u hu
  obtain ⟨s, _, hs⟩ := List.mem_flatMap.1 hu
  exact slV_one s u hs
section
variable {w w' : World} {B n c : Nat} {A : Option Addr}
theorem Rd.lenN {l : List Nl} (h : Rd w B 7 A n c (nlsV l)) : n = l.length := h.lenA nlV 7 nlV_length (by omega)
theorem Rd.lenS {l : List Sl} (h : Rd w B 2 A n c (slsV l)) : n = l.length := h.lenA slV 2 slV_length (by omega)
theorem Rd.nl {l : List Nl} (h : Rd w B 7 A n c (nlsV l)) {i : Nat} (hi : i < l.length) : ∃ b off, A = some ⟨b, off, none⟩ ∧ b < B ∧
    w.cell? ⟨b, off + i * 7, none⟩ = some (.int .u64 ((l.getD i default).p.id.toNat : Int)) ∧ w.cell? ⟨b, off + i * 7 + 1, none⟩ = some (.int .u64 ((l.getD i default).p.par.toNat : Int)) ∧ w.cell? ⟨b, off + i * 7 + 2, none⟩ = some (.int .u64 ((l.getD i default).p.seq.toNat : Int)) ∧
    w.cell? ⟨b, off + i * 7 + 3, none⟩ = some (.int .u64 ((l.getD i default).p.off.toNat : Int)) ∧ w.cell? ⟨b, off + i * 7 + 4, none⟩ = some (.int .u64 ((l.getD i default).p.tim.toNat : Int)) ∧ w.cell? ⟨b, off + i * 7 + 5, none⟩ = some (.int .u32 ((l.getD i default).p.sch.toNat : Int)) ∧
    w.cell? ⟨b, off + i * 7 + 6, none⟩ = some (.slice (l.getD i default).A (l.getD i default).p.ms.length (l.getD i default).c) := by
  obtain ⟨b, off, rfl, hb, hc⟩ := h.el nlV 7 nlV_length hi (by omega)
  exact ⟨b, off, rfl, hb, hc 0 _ rfl, hc 1 _ rfl, hc 2 _ rfl, hc 3 _ rfl, hc 4 _ rfl, hc 5 _ rfl, hc 6 _ rfl⟩
theorem Rd.sl {l : List Sl} (h : Rd w B 2 A n c (slsV l)) {i : Nat} (hi : i < l.length) : ∃ b off, A = some ⟨b, off, none⟩ ∧ b < B ∧
    w.cell? ⟨b, off + i * 2, none⟩ = some (.int .u32 ((l.getD i default).id.toNat : Int)) ∧ w.cell? ⟨b, off + i * 2 + 1, none⟩ = some (.slice (l.getD i default).A (l.getD i default).fs.length (l.getD i default).c) := by
  obtain ⟨b, off, rfl, hb, hc⟩ := h.el slV 2 slV_length hi (by omega)
  exact ⟨b, off, rfl, hb, hc 0 _ rfl, hc 1 _ rfl⟩
end
/-- a table's rows -/
structure TabR (w : World) (B : Nat) (sA : Option Addr) (sc : Nat) (ss : List Sl) (nA : Option Addr) (nc : Nat) (ns : List Nl) : Prop where
  srow : Rd w B 2 sA ss.length sc (slsV ss)
  sin : ∀ s ∈ ss, Rd w B 4 s.A s.fs.length s.c (fdsV s.fs)
  nrow : Rd w B 7 nA ns.length nc (nlsV ns)
  nin : ∀ s ∈ ns, Rd w B 1 s.A s.p.ms.length s.c (strsV s.p.ms)
section
variable {w w' : World} {B B' sc nc : Nat} {sA nA : Option Addr} {ss : List Sl} {ns : List Nl}
theorem TabR.below (h : TabR w B sA sc ss nA nc ns) (hb : Below B w w') : TabR w' B sA sc ss nA nc ns := ⟨h.srow.below hb, fun s hs => (h.sin s hs).below hb, h.nrow.below hb, fun s hs => (h.nin s hs).below hb⟩
theorem TabR.more (h : TabR w B sA sc ss nA nc ns) (hB : B ≤ B') : TabR w B' sA sc ss nA nc ns := ⟨h.srow.more hB, fun s hs => (h.sin s hs).more hB, h.nrow.more hB, fun s hs => (h.nin s hs).more hB⟩
theorem TabR.later (h : TabR w w.heap.size sA sc ss nA nc ns) (hb : Below w.heap.size w w') : TabR w' w'.heap.size sA sc ss nA nc ns := (h.below hb).more hb.size
theorem TabR.drew (h : TabR w B sA sc ss nA nc ns) : TabR w.drew B sA sc ss nA nc ns := ⟨h.srow.drew, fun s hs => (h.sin s hs).drew, h.nrow.drew, fun s hs => (h.nin s hs).drew⟩
theorem getD_mem {α : Type} [Inhabited α] {l : List α} {i : Nat} (hi : i < l.length) : l.getD i default ∈ l := by
  simp [List.getD, hi]
theorem TabR.s_at (h : TabR w B sA sc ss nA nc ns) {i : Nat} (hi : i < ss.length) : Rd w B 4 (ss.getD i default).A (ss.getD i default).fs.length (ss.getD i default).c (fdsV (ss.getD i default).fs) := h.sin _ (getD_mem hi)
theorem TabR.n_at (h : TabR w B sA sc ss nA nc ns) {i : Nat} (hi : i < ns.length) : Rd w B 1 (ns.getD i default).A (ns.getD i default).p.ms.length (ns.getD i default).c (strsV (ns.getD i default).p.ms) := h.nin _ (getD_mem hi)
end
theorem tyStrs : STy Try.prog 53 9 1 16 (.string ByteArray.empty) := ⟨Try.underlying53, by kernel_rfl, rfl, by decide, by decide⟩
theorem tySnaps : STy Try.prog 67 73 7 72 (.agg #[.int .u64 0, .int .u64 0, .int .u64 0, .int .u64 0, .int .u64 0, .int .u32 0, .slice none 0 0]) := ⟨Try.underlying67, by kernel_rfl, rfl, by decide, by decide⟩
theorem tySchs : STy Try.prog 66 25 2 32 (.agg #[.int .u32 0, .slice none 0 0]) := ⟨Try.underlying66, by kernel_rfl, rfl, by decide, by decide⟩
theorem strsV_one (l : List ByteArray) : ∀ u ∈ strsV l, u.oneCell' = true := by
  intro u hu
  simp [strsV] at hu
  obtain ⟨a, _, rfl⟩ := hu
  rfl
end Go.Proofs.Ytlccpchlclpnaaa
