/- THE CELLS of statistics and of entries; rows of them. No statement of the seat is proved here; no condition. -/
import Derived.Test.YtbcnekaagkdmeaaDoorEnB
namespace Go.Proofs.YtbcnekaagkdmeaaDoor
open Go.RowKit

theorem flat_len {α : Type} (enc : α → List Value) (k : Nat) (hk : ∀ a, (enc a).length = k) (l : List α) : (l.flatMap enc).length = l.length * k := by
  induction l with
  | nil => simp
  | cons a l ih => rw [List.flatMap_cons, List.length_append, ih, hk, List.length_cons, Nat.succ_mul]; omega
theorem Rd.el {α : Type} [Inhabited α] (enc : α → List Value) (k : Nat) (hk : ∀ a, (enc a).length = k) {w : World} {B n c : Nat} {A : Option Addr} {l : List α} (h : Rd w B k A n c (l.flatMap enc)) {i : Nat} (hi : i < l.length) (hk0 : 0 < k) :
    ∃ b off, A = some ⟨b, off, none⟩ ∧ b < B ∧ ∀ j v, (enc (l.getD i default))[j]? = some v → w.cell? ⟨b, off + i * k + j, none⟩ = some v := by
  have hn : n = l.length := by
    have := h.len
    rw [flat_len enc k hk] at this
    exact (Nat.eq_of_mul_eq_mul_right hk0 this).symm
  obtain ⟨b, off, rfl, hb, hc⟩ := h.at_ (by omega)
  refine ⟨b, off, rfl, hb, fun j v hj => ?_⟩
  rw [Nat.add_assoc]
  refine hc _ v ?_
  have hjk : j < k := by
    have := (List.getElem?_eq_some_iff.1 hj).1
    rw [hk] at this
    exact this
  rw [flat_get enc k hk l i j hi hjk, ← hj]
  simp [List.getD, hi]
theorem Rd.lenA {α : Type} (enc : α → List Value) (k : Nat) (hk : ∀ a, (enc a).length = k) {w : World} {B n c : Nat} {A : Option Addr} {l : List α} (h : Rd w B k A n c (l.flatMap enc)) (hk0 : 0 < k) : n = l.length := by
  have := h.len
  rw [flat_len enc k hk] at this
  exact (Nat.eq_of_mul_eq_mul_right hk0 this).symm

def stV (s : St) : List Value := [.int .i64 s.rows.toInt, .int .i64 s.nulls.toInt, .bool s.som, .bool s.high, .int .u8 (s.mn.kind.toNat : Int), .int .i64 s.mn.n.toInt, .string s.mn.s, .int .u8 (s.mx.kind.toNat : Int), .int .i64 s.mx.n.toInt, .string s.mx.s]
def stsV (l : List St) : List Value := l.flatMap stV
theorem stV_length (s : St) : (stV s).length = 10 := rfl
theorem stsV_length (l : List St) : (stsV l).length = l.length * 10 := flat_len stV 10 stV_length l
theorem stsV_append (a b : List St) : stsV (a ++ b) = stsV a ++ stsV b := by simp [stsV]
theorem stV_one (s : St) : ∀ u ∈ stV s, u.oneCell' = true := by
  intro u hu
  simp only [stV, List.mem_cons, List.not_mem_nil, or_false] at hu
  rcases hu with rfl | rfl | rfl | rfl | rfl | rfl | rfl | rfl | rfl | rfl <;> rfl
theorem stsV_one (l : List St) : ∀ u ∈ stsV l, u.oneCell' = true := by
  intro u hu
  obtain ⟨s, _, hs⟩ := List.mem_flatMap.1 hu
  exact stV_one s u hs
/-- an entry, where its statistics lie -/
structure El where
  p : En
  A : Option Addr
  c : Nat
instance : Inhabited El := ⟨⟨default, none, 0⟩⟩
def elV (x : El) : List Value := [.string x.p.name, .bool x.p.keys, .int .u64 (x.p.seq.toNat : Int), .int .i64 x.p.rows.toInt, .int .u32 (x.p.sch.toNat : Int), .slice x.A x.p.stats.length x.c]
def elsV (l : List El) : List Value := l.flatMap elV
theorem elV_length (x : El) : (elV x).length = 6 := rfl
theorem elsV_length (l : List El) : (elsV l).length = l.length * 6 := flat_len elV 6 elV_length l
theorem elsV_append (a b : List El) : elsV (a ++ b) = elsV a ++ elsV b := by simp [elsV]
theorem elV_one (x : El) : ∀ u ∈ elV x, u.oneCell' = true := by
  intro u hu
  simp only [elV, List.mem_cons, List.not_mem_nil, or_false] at hu
  rcases hu with rfl | rfl | rfl | rfl | rfl | rfl <;> rfl
theorem elsV_one (l : List El) : ∀ u ∈ elsV l, u.oneCell' = true := by
  intro u hu
  obtain ⟨s, _, hs⟩ := List.mem_flatMap.1 hu
  exact elV_one s u hs
section
variable {w w' : World} {B n c : Nat} {A : Option Addr}
theorem Rd.lenT {l : List St} (h : Rd w B 10 A n c (stsV l)) : n = l.length := h.lenA stV 10 stV_length (by omega)
theorem Rd.lenE {l : List El} (h : Rd w B 6 A n c (elsV l)) : n = l.length := h.lenA elV 6 elV_length (by omega)
theorem Rd.stA {l : List St} (h : Rd w B 10 A n c (stsV l)) {i : Nat} (hi : i < l.length) : ∃ b off, A = some ⟨b, off, none⟩ ∧ b < B ∧ ∀ s, l.getD i default = s →
    (w.cell? ⟨b, off + i * 10, none⟩ = some (.int .i64 s.rows.toInt) ∧ w.cell? ⟨b, off + i * 10 + 1, none⟩ = some (.int .i64 s.nulls.toInt) ∧ w.cell? ⟨b, off + i * 10 + 2, none⟩ = some (.bool s.som) ∧ w.cell? ⟨b, off + i * 10 + 3, none⟩ = some (.bool s.high) ∧
    w.cell? ⟨b, off + i * 10 + 4, none⟩ = some (.int .u8 (s.mn.kind.toNat : Int)) ∧ w.cell? ⟨b, off + i * 10 + 5, none⟩ = some (.int .i64 s.mn.n.toInt) ∧ w.cell? ⟨b, off + i * 10 + 6, none⟩ = some (.string s.mn.s) ∧
    w.cell? ⟨b, off + i * 10 + 7, none⟩ = some (.int .u8 (s.mx.kind.toNat : Int)) ∧ w.cell? ⟨b, off + i * 10 + 8, none⟩ = some (.int .i64 s.mx.n.toInt) ∧ w.cell? ⟨b, off + i * 10 + 9, none⟩ = some (.string s.mx.s)) := by
  obtain ⟨b, off, rfl, hb, hc⟩ := h.el stV 10 stV_length hi (by omega)
  refine ⟨b, off, rfl, hb, fun s hs => ?_⟩
  subst hs
  exact ⟨hc 0 _ rfl, hc 1 _ rfl, hc 2 _ rfl, hc 3 _ rfl, hc 4 _ rfl, hc 5 _ rfl, hc 6 _ rfl, hc 7 _ rfl, hc 8 _ rfl, hc 9 _ rfl⟩
theorem Rd.elA {l : List El} (h : Rd w B 6 A n c (elsV l)) {i : Nat} (hi : i < l.length) : ∃ b off, A = some ⟨b, off, none⟩ ∧ b < B ∧ ∀ x, l.getD i default = x →
    (w.cell? ⟨b, off + i * 6, none⟩ = some (.string x.p.name) ∧ w.cell? ⟨b, off + i * 6 + 1, none⟩ = some (.bool x.p.keys) ∧ w.cell? ⟨b, off + i * 6 + 2, none⟩ = some (.int .u64 (x.p.seq.toNat : Int)) ∧
    w.cell? ⟨b, off + i * 6 + 3, none⟩ = some (.int .i64 x.p.rows.toInt) ∧ w.cell? ⟨b, off + i * 6 + 4, none⟩ = some (.int .u32 (x.p.sch.toNat : Int)) ∧ w.cell? ⟨b, off + i * 6 + 5, none⟩ = some (.slice x.A x.p.stats.length x.c)) := by
  obtain ⟨b, off, rfl, hb, hc⟩ := h.el elV 6 elV_length hi (by omega)
  refine ⟨b, off, rfl, hb, fun s hs => ?_⟩
  subst hs
  exact ⟨hc 0 _ rfl, hc 1 _ rfl, hc 2 _ rfl, hc 3 _ rfl, hc 4 _ rfl, hc 5 _ rfl⟩
end
/-- a list of entries in rows below B -/
structure EnR (w : World) (B : Nat) (A : Option Addr) (c : Nat) (l : List El) : Prop where
  row : Rd w B 6 A l.length c (elsV l)
  ins : ∀ x ∈ l, Rd w B 10 x.A x.p.stats.length x.c (stsV x.p.stats)
section
variable {w w' : World} {B c : Nat} {A : Option Addr} {l : List El}
theorem EnR.below (h : EnR w B A c l) (hb : Below B w w') : EnR w' B A c l := ⟨h.row.below hb, fun x hx => (h.ins x hx).below hb⟩
theorem EnR.more (h : EnR w B A c l) {B2 : Nat} (hB : B ≤ B2) : EnR w B2 A c l := ⟨h.row.more hB, fun x hx => (h.ins x hx).more hB⟩
theorem EnR.later (h : EnR w w.heap.size A c l) {w0 : World} (hb : Below w.heap.size w w') : EnR w' w'.heap.size A c l := (h.below hb).more hb.size
end
theorem tySts : STy Tryd.prog 34 53 10 88 (.agg #[.int .i64 0, .int .i64 0, .bool false, .bool false, .int .u8 0, .int .i64 0, .string ByteArray.empty, .int .u8 0, .int .i64 0, .string ByteArray.empty]) := ⟨Tryd.underlying34, by kernel_rfl, rfl, by decide, by decide⟩
theorem tyEls : STy Tryd.prog 22 36 6 72 (.agg #[.string ByteArray.empty, .bool false, .int .u64 0, .int .i64 0, .int .u32 0, .slice none 0 0]) := ⟨Tryd.underlying22, by kernel_rfl, rfl, by decide, by decide⟩
end Go.Proofs.YtbcnekaagkdmeaaDoor
