/- WALKS of values: their kinds; where a field is. No statement of the seat is proved here; no condition. -/
import Derived.Test.YtlccpchlclpnaaaSchA
import Derived.Test.YtlccpchlclpnaaaAbs
import Derived.Deep.OwnRows
namespace Go.Proofs.Ytlccpchlclpnaaa
open Go.RowKit

/-- what stands in rows -/
inductive Vl where
  | none
  | whole (n : Int)
  | truth (b : Bool)
  | text (s : ByteArray)
instance : Inhabited Vl := ⟨.none⟩
def vlV : Vl → Value
  | .none => .nilIface
  | .whole n => .iface 2 (.int .i64 n)
  | .truth b => .iface 4 (.bool b)
  | .text s => .iface 9 (.string s)
def vlsV (l : List Vl) : List Value := l.map vlV
def kindOf : Vl → Nat
  | .none => 0
  | .whole _ => 1
  | .truth _ => 2
  | .text _ => 3
def isNil : Vl → Bool
  | .none => true
  | _ => false
theorem vlsV_length (l : List Vl) : (vlsV l).length = l.length := by simp [vlsV]
theorem vlsV_get (l : List Vl) (k : Nat) (hk : k < l.length) : (vlsV l)[k]? = some (vlV (l.getD k default)) := by simp [vlsV, List.getD, hk]
theorem vlsV_one (l : List Vl) : ∀ u ∈ vlsV l, u.oneCell' = true := by
  intro u hu
  obtain ⟨v, _, rfl⟩ := List.mem_map.1 hu
  cases v <;> rfl
theorem Rd.vl {w : World} {B n c : Nat} {A : Option Addr} {l : List Vl} (h : Rd w B 1 A n c (vlsV l)) {k : Nat} (hk : k < l.length) :
    ∃ b off, A = some ⟨b, off, none⟩ ∧ b < B ∧ w.cell? ⟨b, off + k, none⟩ = some (vlV (l.getD k default)) := by
  have hn : 0 < n := by
    have := h.len
    rw [vlsV_length] at this
    omega
  obtain ⟨b, off, e, hb, hc⟩ := h.at_ hn
  exact ⟨b, off, e, hb, hc k _ (vlsV_get l k hk)⟩
theorem Rd.lenV {w : World} {B n c : Nat} {A : Option Addr} {l : List Vl} (h : Rd w B 1 A n c (vlsV l)) : n = l.length := by
  have := h.len
  rw [vlsV_length] at this
  omega

theorem ta_int (v : Vl) (w : World) : (Instr.typeAssert (vlV v) 97 2 true).run Try.prog w = .ok (.tuple #[match v with | .whole x => .int .i64 x | _ => .int .i64 0, .bool (match v with | .whole _ => true | _ => false)]) w := by
  cases v <;> simp only [vlV]
  all_goals simp [Instr.typeAssert, run_underlying Try.underlying2]
  all_goals go_simp
theorem ta_bool (v : Vl) (w : World) : (Instr.typeAssert (vlV v) 97 4 true).run Try.prog w = .ok (.tuple #[match v with | .truth x => .bool x | _ => .bool false, .bool (match v with | .truth _ => true | _ => false)]) w := by
  cases v <;> simp only [vlV]
  all_goals simp [Instr.typeAssert, run_underlying Try.underlying4]
  all_goals go_simp
theorem ta_str (v : Vl) (w : World) : (Instr.typeAssert (vlV v) 97 9 true).run Try.prog w = .ok (.tuple #[match v with | .text x => .string x | _ => .string ⟨#[]⟩, .bool (match v with | .text _ => true | _ => false)]) w := by
  cases v <;> simp only [vlV]
  all_goals simp [Instr.typeAssert, run_underlying Try.underlying9]
  all_goals go_simp
set_option maxRecDepth 100000 in
theorem kindOfW (w : World) (v : Vl) : Calls Try.prog 61 #[vlV v] w fun e w' => e = .returned (.int .u8 (kindOf v : Int)) ∧ w = w' := by
  have h1 := ta_int v
  have h2 := ta_bool v
  have h3 := ta_str v
  cases v <;> simp only [vlV, kindOf] at *
  all_goals
    go_enter Try.func61, Try.ntmps61
    go_wp2_with fail
    go_ret
    exact ⟨rfl, rfl⟩

/-- where the field of an Id is, or -1 -/
def placeOf (i : Nat) (l : List Fd) : Int := idxF (fun f => (f.id.toNat : Int) == (i : Int)) l
theorem idxF_lt (p : Fd → Bool) (l : List Fd) : -1 ≤ idxF p l ∧ idxF p l < (l.length : Int) := by
  unfold idxF
  split
  · next h =>
    rw [List.any_eq_true] at h
    have := List.findIdx_lt_length.2 h
    omega
  · omega
set_option maxRecDepth 100000 in
theorem schPlace (w : World) (id : UInt32) (n c : Nat) (A : Option Addr) (l : List Fd) (hr : Rd w w.heap.size 4 A n c (fdsV l)) (hmax : l.length ≤ 1000000) (i : Nat) (_hi : i < 4294967296) :
    Calls Try.prog 18 #[.agg #[.int .u32 (id.toNat : Int), .slice A n c], .int .u32 (i : Int)] w fun e w' =>
      e = .returned (.tuple #[.int .i64 (max (placeOf i l) 0), .bool (decide (0 ≤ placeOf i l))]) ∧ Below w.heap.size w w' := by
  have hI := idxF_lt (fun f => (f.id.toNat : Int) == (i : Int)) l
  obtain ⟨r, hrr⟩ : ∃ r, r = placeOf i l := ⟨_, rfl⟩
  rw [← hrr]
  have hI' : -1 ≤ r := by rw [hrr]; exact hI.1
  have HR := hide hrr
  clear hrr hI
  go_enter Try.func18, Try.ntmps18
  go_wp2_with fail
  have x1 := box_new w #[.int .u32 (id.toNat : Int), .slice A n c] 25
  generalize hwa : w.alloc (.cells #[.int .u32 (id.toNat : Int), .slice A n c] 25) = wa at *
  have x2 := box_new wa #[.int .u32 (i : Int)] 22
  generalize hwb : wa.alloc (.cells #[.int .u32 (i : Int)] 22) = w2 at *
  have za := x1.size
  obtain ⟨cs, _, zs, hb2⟩ := x1.lift x2.below
  obtain ⟨cn, _, zn, _⟩ := x2.lift (Below.refl _ _)
  have n0 : w2.cell? ⟨wa.heap.size, 0, none⟩ = some (.int .u32 (i : Int)) := cn 0 _ rfl
  rw [show w.heap.size + 1 = wa.heap.size by omega]
  refine (indexF w2 _ n c A l (hr.below hb2) (Nat.le_of_lt zs) hmax 60 #[.pointer (some ⟨wa.heap.size, 0, none⟩)] _ enter60 (predId w2 wa.heap.size i zn n0)).mono ?_
  rintro e w3 ⟨he, hb3⟩
  have hB : Below w.heap.size w w3 := below_call hb2 (Nat.le_of_lt zs) hb3
  obtain rfl : e = .returned (.int .i64 r) := by rw [he, HR.out]; rfl
  clear he hwa hwb cs cn x1 x2 n0 hb3 hr HR
  by_cases hr0 : 0 ≤ r
  · have t1 : decide ((0 : Int) ≤ r) = true := decide_eq_true hr0
    have t2 : max r 0 = r := Int.max_eq_left hr0
    go_wp2_with fail
    go_ret2
    exact ⟨by simp [t1, t2], hB⟩
  · obtain rfl : r = -1 := by omega
    go_wp2_with fail
    go_ret2
    exact ⟨rfl, hB⟩
end Go.Proofs.Ytlccpchlclpnaaa
