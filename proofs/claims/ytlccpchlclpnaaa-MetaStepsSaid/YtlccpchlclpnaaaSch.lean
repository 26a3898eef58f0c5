/- PLAIN WORDS of schemas: fields, which may be, one more, rows. No program in sight. -/
import Derived.Test.YtlccpchlclpnaaaSig
import Derived.Test.YtlccpchlclpnaaaBase
namespace Go.Proofs.Ytlccpchlclpnaaa
open Go.RowKit

structure Fd where
  id : UInt32
  name : ByteArray
  kind : UInt8
  need : Bool
instance : Inhabited Fd := ⟨⟨0, ByteArray.empty, 0, false⟩⟩
/-- a field's cells -/
def fdV (f : Fd) : List Value := [.int .u32 (f.id.toNat : Int), .string f.name, .int .u8 (f.kind.toNat : Int), .bool f.need]
def fdsV (l : List Fd) : List Value := l.flatMap fdV
theorem fdV_length (f : Fd) : (fdV f).length = 4 := rfl
theorem fdsV_nil : fdsV [] = [] := rfl
theorem fdsV_cons (f : Fd) (l : List Fd) : fdsV (f :: l) = fdV f ++ fdsV l := rfl
theorem fdsV_append (a b : List Fd) : fdsV (a ++ b) = fdsV a ++ fdsV b := by simp [fdsV]
theorem fdsV_length (l : List Fd) : (fdsV l).length = l.length * 4 := by
  induction l with
  | nil => rfl
  | cons f l ih => rw [fdsV_cons, List.length_append, ih, fdV_length, List.length_cons]; omega
theorem fdsV_get (l : List Fd) (k j : Nat) (hk : k < l.length) (hj : j < 4) : (fdsV l)[k * 4 + j]? = (fdV l[k])[j]? := by
  induction l generalizing k with
  | nil => simp at hk
  | cons f l ih =>
    rw [fdsV_cons]
    cases k with
    | zero => rw [List.getElem?_append_left (by rw [fdV_length]; omega)]; simp
    | succ k =>
      rw [List.getElem?_append_right (by rw [fdV_length]; omega), fdV_length, show (k + 1) * 4 + j - 4 = k * 4 + j by omega]
      rw [ih k (by simpa using hk)]
      simp
theorem fdsV_one (l : List Fd) : ∀ u ∈ fdsV l, u.oneCell' = true := by
  intro u hu
  obtain ⟨f, _, hf⟩ := List.mem_flatMap.1 hu
  simp only [fdV, List.mem_cons, List.not_mem_nil, or_false] at hf
  rcases hf with rfl | rfl | rfl | rfl <;> rfl

/-- has one of them this name? -/
def hasName (l : List Fd) (s : ByteArray) : Bool := l.any fun f => f.name.toList == s.toList
/-- the Id ahead of field i (0: none) -/
def wasId (l : List Fd) (i : Nat) : Nat := if i = 0 then 0 else (l.getD (i - 1) default).id.toNat
/-- the error of field i (0: none) -/
def errAt (l : List Fd) (i : Nat) : Nat :=
  let f := l.getD i default
  if f.id.toNat ≤ wasId l i then 81
  else if (!named f.name || hasName (l.take i) f.name) = true then 80
  else if (decide (f.kind.toNat < 1) || decide (3 < f.kind.toNat)) = true then 10
  else if ((f.need != decide (i = 0)) || (decide (i = 0) && decide (f.kind.toNat = 2))) = true then 82
  else 0
/-- the first one's -/
def errFrom (l : List Fd) : Nat → Nat → Nat
  | 0, _ => 0
  | b + 1, i => if errAt l i = 0 then errFrom l b (i + 1) else errAt l i
theorem errFrom_no (l : List Fd) (b i : Nat) (h : errAt l i = 0) : errFrom l (b + 1) i = errFrom l b (i + 1) := by simp [errFrom, h]
theorem errFrom_yes (l : List Fd) (b i : Nat) (h : errAt l i ≠ 0) : errFrom l (b + 1) i = errAt l i := by simp [errFrom, h]
/-- which schemas may be -/
def check (id : UInt32) (l : List Fd) : Nat := if id.toNat < 1 ∨ l.length < 1 ∨ 8 < l.length then 1 else errFrom l l.length 0
/-- a row of fields: field k's four cells -/
theorem Rd.fd {w : World} {B n c : Nat} {A : Option Addr} {l : List Fd} (h : Rd w B 4 A n c (fdsV l)) {k : Nat} (hk : k < l.length) :
    ∃ b off, A = some ⟨b, off, none⟩ ∧ b < B ∧ w.cell? ⟨b, off + k * 4, none⟩ = some (.int .u32 ((l.getD k default).id.toNat : Int)) ∧ w.cell? ⟨b, off + k * 4 + 1, none⟩ = some (.string (l.getD k default).name) ∧
      w.cell? ⟨b, off + k * 4 + 2, none⟩ = some (.int .u8 ((l.getD k default).kind.toNat : Int)) ∧ w.cell? ⟨b, off + k * 4 + 3, none⟩ = some (.bool (l.getD k default).need) := by
  have hn : 0 < n := by
    have := h.len
    rw [fdsV_length] at this
    omega
  obtain ⟨b, off, e, hb, hc⟩ := h.at_ hn
  have hd : l.getD k default = l[k] := by simp [List.getD, hk]
  have g : ∀ j, j < 4 → (fdsV l)[k * 4 + j]? = (fdV (l.getD k default))[j]? := fun j hj => by rw [hd]; exact fdsV_get l k j hk hj
  exact ⟨b, off, e, hb, hc (k * 4 + 0) _ (g 0 (by omega)), hc (k * 4 + 1) _ (g 1 (by omega)), hc (k * 4 + 2) _ (g 2 (by omega)), hc (k * 4 + 3) _ (g 3 (by omega))⟩
theorem Rd.lenF {w : World} {B n c : Nat} {A : Option Addr} {l : List Fd} (h : Rd w B 4 A n c (fdsV l)) : n = l.length := by
  have := h.len
  rw [fdsV_length] at this
  omega
theorem hasName_from (l : List Fd) (s : ByteArray) (k : Nat) (hk : k < l.length) (h : ((l.getD k default).name.toList == s.toList) = true) : hasName l s = true := by
  unfold hasName
  rw [List.any_eq_true]
  exact ⟨l[k], List.getElem_mem hk, by simpa [List.getD, hk] using h⟩
theorem hasName_none (l : List Fd) (s : ByteArray) (h : ∀ j, j < l.length → ((l.getD j default).name.toList == s.toList) = false) : hasName l s = false := by
  unfold hasName
  rw [List.any_eq_false]
  intro f hf
  obtain ⟨j, hj, rfl⟩ := List.mem_iff_getElem.1 hf
  have := h j hj
  simp [List.getD, hj] at this
  simpa using this

theorem errFrom_at {l : List Fd} {k e : Nat} (hk : k < l.length) (h : errAt l k = e) (he : e ≠ 0) : errFrom l (l.length - k) k = e := by
  rw [show l.length - k = (l.length - (k + 1)) + 1 by omega, errFrom_yes _ _ _ (by rw [h]; exact he), h]
theorem errFrom_next {l : List Fd} {k : Nat} (hk : k < l.length) (h : errAt l k = 0) : errFrom l (l.length - k) k = errFrom l (l.length - (k + 1)) (k + 1) := by
  rw [show l.length - k = (l.length - (k + 1)) + 1 by omega, errFrom_no _ _ _ h]
section
variable {l : List Fd} {k : Nat} {f : Fd} (hf : l.getD k default = f)
include hf
theorem errAt_81 (h : f.id.toNat ≤ wasId l k) : errAt l k = 81 := by unfold errAt; rw [hf]; simp only [h, if_true]
theorem errAt_80 (h : ¬ f.id.toNat ≤ wasId l k) (h2 : (!named f.name || hasName (l.take k) f.name) = true) : errAt l k = 80 := by unfold errAt; rw [hf]; simp only [h, if_false, h2, if_true]
theorem errAt_10 (h : ¬ f.id.toNat ≤ wasId l k) (h2 : (!named f.name || hasName (l.take k) f.name) = false) (h3 : f.kind.toNat < 1 ∨ 3 < f.kind.toNat) : errAt l k = 10 := by
  unfold errAt; rw [hf]
  have h3' : (decide (f.kind.toNat < 1) || decide (3 < f.kind.toNat)) = true := by simpa using h3
  simp only [h, if_false, h2, h3', if_true, Bool.false_eq_true]
theorem errAt_82 (h : ¬ f.id.toNat ≤ wasId l k) (h2 : (!named f.name || hasName (l.take k) f.name) = false) (h3 : ¬ (f.kind.toNat < 1 ∨ 3 < f.kind.toNat)) (h4 : ((f.need != decide (k = 0)) || (decide (k = 0) && decide (f.kind.toNat = 2))) = true) : errAt l k = 82 := by
  unfold errAt; rw [hf]
  have h3' : (decide (f.kind.toNat < 1) || decide (3 < f.kind.toNat)) = false := by simp; omega
  simp only [h, if_false, h2, h3', h4, if_true, Bool.false_eq_true]
theorem errAt_0 (h : ¬ f.id.toNat ≤ wasId l k) (h2 : (!named f.name || hasName (l.take k) f.name) = false) (h3 : ¬ (f.kind.toNat < 1 ∨ 3 < f.kind.toNat)) (h4 : ((f.need != decide (k = 0)) || (decide (k = 0) && decide (f.kind.toNat = 2))) = false) : errAt l k = 0 := by
  unfold errAt; rw [hf]
  have h3' : (decide (f.kind.toNat < 1) || decide (3 < f.kind.toNat)) = false := by simp; omega
  simp only [h, if_false, h2, h3', h4, Bool.false_eq_true]
end
theorem wasId_0 (l : List Fd) : wasId l 0 = 0 := rfl
theorem wasId_succ (l : List Fd) {k m : Nat} (h : 0 < k) (hm : m = k - 1) : wasId l k = (l.getD m default).id.toNat := by unfold wasId; rw [if_neg (by omega), hm]
/-! ### a schema with a field more -/
def lastId (l : List Fd) : Nat := (l.getD (l.length - 1) default).id.toNat
def addErr (id : UInt32) (l : List Fd) (name : ByteArray) (k : Nat) : Nat :=
  if check id l ≠ 0 then check id l
  else if l.length = 8 ∨ lastId l = 4294967295 ∨ id.toNat = 4294967295 then 4
  else if (!named name || hasName l name) = true then 80
  else if k < 1 ∨ 3 < k then 10 else 0
def addId (id : UInt32) (l : List Fd) (name : ByteArray) (k : Nat) : UInt32 := if addErr id l name k = 0 then UInt32.ofNat (id.toNat + 1) else 0
def newFd (l : List Fd) (name : ByteArray) (k : Nat) : Fd := ⟨UInt32.ofNat (lastId l + 1), name, UInt8.ofNat k, false⟩
def addFds (id : UInt32) (l : List Fd) (name : ByteArray) (k : Nat) : List Fd := if addErr id l name k = 0 then l ++ [newFd l name k] else []
theorem check_len {id : UInt32} {l : List Fd} (h : check id l = 0) : 1 ≤ id.toNat ∧ 1 ≤ l.length ∧ l.length ≤ 8 := by
  unfold check at h
  split at h
  · omega
  · omega
theorem errFrom_le (l : List Fd) : ∀ b i, errFrom l b i ≤ 82 := by
  intro b
  induction b with
  | zero => intro i; simp [errFrom]
  | succ b ih =>
    intro i
    unfold errFrom
    split
    · exact ih _
    · unfold errAt; dsimp only; repeat' split
      all_goals omega
theorem check_le (id : UInt32) (l : List Fd) : check id l ≤ 82 := by
  unfold check
  split
  · omega
  · exact errFrom_le _ _ _
section
variable {id : UInt32} {l : List Fd} {name : ByteArray} {k : Nat}
theorem add_check (h : check id l ≠ 0) : addErr id l name k = check id l ∧ addId id l name k = 0 ∧ addFds id l name k = [] := by
  have e : addErr id l name k = check id l := by unfold addErr; rw [if_pos h]
  refine ⟨e, ?_, ?_⟩
  · unfold addId; rw [e, if_neg h]
  · unfold addFds; rw [e, if_neg h]
theorem add_4 (h : check id l = 0) (h2 : l.length = 8 ∨ lastId l = 4294967295 ∨ id.toNat = 4294967295) : addErr id l name k = 4 ∧ addId id l name k = 0 ∧ addFds id l name k = [] := by
  have e : addErr id l name k = 4 := by unfold addErr; rw [if_neg (by rw [h]; simp), if_pos h2]
  refine ⟨e, ?_, ?_⟩
  · unfold addId; rw [e]; rfl
  · unfold addFds; rw [e]; rfl
theorem add_80 (h : check id l = 0) (h2 : ¬ (l.length = 8 ∨ lastId l = 4294967295 ∨ id.toNat = 4294967295)) (h3 : (!named name || hasName l name) = true) : addErr id l name k = 80 ∧ addId id l name k = 0 ∧ addFds id l name k = [] := by
  have e : addErr id l name k = 80 := by unfold addErr; rw [if_neg (by rw [h]; simp), if_neg h2, if_pos h3]
  refine ⟨e, ?_, ?_⟩
  · unfold addId; rw [e]; rfl
  · unfold addFds; rw [e]; rfl
theorem add_10 (h : check id l = 0) (h2 : ¬ (l.length = 8 ∨ lastId l = 4294967295 ∨ id.toNat = 4294967295)) (h3 : (!named name || hasName l name) = false) (h4 : k < 1 ∨ 3 < k) : addErr id l name k = 10 ∧ addId id l name k = 0 ∧ addFds id l name k = [] := by
  have e : addErr id l name k = 10 := by unfold addErr; rw [if_neg (by rw [h]; simp), if_neg h2, if_neg (by rw [h3]; simp), if_pos h4]
  refine ⟨e, ?_, ?_⟩
  · unfold addId; rw [e]; rfl
  · unfold addFds; rw [e]; rfl
theorem add_0 (h : check id l = 0) (h2 : ¬ (l.length = 8 ∨ lastId l = 4294967295 ∨ id.toNat = 4294967295)) (h3 : (!named name || hasName l name) = false) (h4 : ¬ (k < 1 ∨ 3 < k)) : addErr id l name k = 0 ∧ addId id l name k = UInt32.ofNat (id.toNat + 1) ∧ addFds id l name k = l ++ [newFd l name k] := by
  have e : addErr id l name k = 0 := by unfold addErr; rw [if_neg (by rw [h]; simp), if_neg h2, if_neg (by rw [h3]; simp), if_neg h4]
  refine ⟨e, ?_, ?_⟩
  · unfold addId; rw [e]; rfl
  · unfold addFds; rw [e]; rfl
end
theorem ofNat32 {n : Nat} (h : n < 4294967296) : (UInt32.ofNat n).toNat = n := by rw [UInt32.toNat_ofNat']; omega
theorem ofNat8 {n : Nat} (h : n < 256) : (UInt8.ofNat n).toNat = n := by rw [UInt8.toNat_ofNat']; omega
theorem newFd_V (l : List Fd) (name : ByteArray) (k : Nat) (h : lastId l + 1 < 4294967296) (hk : k < 256) : fdV (newFd l name k) = [.int .u32 ((lastId l + 1 : Nat) : Int), .string name, .int .u8 (k : Int), .bool false] := by
  unfold newFd fdV
  rw [ofNat32 h, ofNat8 hk]
/-- a schema that reads so -/
def SchR (w : World) (v : Value) (id : UInt32) (l : List Fd) : Prop := ∃ A c, v = .agg #[.int .u32 (id.toNat : Int), .slice A l.length c] ∧ Rd w w.heap.size 4 A l.length c (fdsV l)
theorem SchR.none (w : World) : SchR w (.agg #[.int .u32 0, .slice none 0 0]) 0 [] := ⟨Option.none, 0, rfl, Rd.nil _ _ _⟩
theorem SchR.below {w w' : World} {v : Value} {id : UInt32} {l : List Fd} (h : SchR w v id l) (hb : Below w.heap.size w w') : SchR w' v id l := by
  obtain ⟨A, c, e, hr⟩ := h
  exact ⟨A, c, e, (hr.below hb).more hb.size⟩
end Go.Proofs.Ytlccpchlclpnaaa
