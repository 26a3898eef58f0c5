/- THE FRAME's HELPERS for schemas: an argument that is a schema, opened to what the walks are told of it. No statement of the seat is proved here; no condition. -/
import Derived.Test.YtlccpchlclpnaaaFrame
import Derived.Test.YtlccpchlclpnaaaTy
import Derived.Test.YtlccpchlclpnaaaSch
import Derived.Deep.Slices
import Derived.Deep.Fields
import Derived.ChangeSame
import Derived.Lib.SmallJoins
namespace Go.Proofs.Ytlccpchlclpnaaa
open Go.ChangeShapes Go.WideShapes Go.ChangeAt Go.RowKit Go.Deep Go.Joins

section
variable {H : Type} {enc : TypeId × Value → H} {w : World} {base : Nat} {spare : Nat → Bool} {held : Bool} {fuel : Nat}
theorem cells_u32 : Try.prog.cellsOf 22 = 1 := by kernel_rfl
theorem cells_str : Try.prog.cellsOf 9 = 1 := by kernel_rfl
theorem cells_kind : Try.prog.cellsOf 31 = 1 := by kernel_rfl
theorem cells_bool : Try.prog.cellsOf 4 = 1 := by kernel_rfl
theorem cells_fd : Try.prog.cellsOf 96 = 4 := by kernel_rfl
theorem list4 {α : Type} {cs : List α} (h : cs.length = 4) : ∃ a b c d, cs = [a, b, c, d] := by
  match cs, h with
  | [a, b, c, d], _ => exact ⟨a, b, c, d, rfl⟩
/-- a field of a struct of one-cell fields, by its place -/
theorem trod_at {P : Program} {t : TypeId} {fs : Array Field} {cs : List Value} {x : DataW H × List MemPlace} {F : Nat} (ht : P.underlying t = some (.struct fs)) (hone : oneCellFields P fs = true) (h : DataW.trod enc P w base spare held F t cs = some x) (hl : cs.length = fs.size) :
    ∃ n, ∀ (i : Nat) (f : Field) (c : Value), fs[i]? = some f → cs[i]? = some c → ∃ y, DataW.trod enc P w base spare held n f.type [c] = some y := by
  obtain ⟨ys, n, _, _, _, hyl, hf⟩ := DataW.trod_struct ht h
  refine ⟨n, fun i f c hi hc => ?_⟩
  obtain ⟨ho, hk⟩ := hone_of hone i f hi
  have h1 := hf i f hi
  rw [ho, hk] at h1
  have hil : i < cs.length := (List.getElem?_eq_some_iff.1 hc).1
  have e : (cs.drop i).take 1 = [c] := by
    rw [List.drop_eq_getElem_cons hil]
    have := (List.getElem?_eq_some_iff.1 hc).2
    simp [this]
  rw [e] at h1
  have hys : i < ys.length := by rw [hyl]; rw [← hl]; exact hil
  exact ⟨_, h1.trans (List.getElem?_eq_getElem hys)⟩
theorem open_fd {cs : List Value} {x : DataW H × List MemPlace} (hl : cs.length = 4) (h : DataW.trod enc Try.prog w base spare held fuel 96 cs = some x) : ∃ f : Fd, cs = fdV f := by
  obtain ⟨n, hf⟩ := trod_at Try.underlying96 (by kernel_rfl) h hl
  obtain ⟨c0, c1, c2, c3, rfl⟩ := list4 hl
  obtain ⟨y0, h0⟩ := hf 0 _ c0 rfl rfl
  obtain ⟨y1, h1⟩ := hf 1 _ c1 rfl rfl
  obtain ⟨y2, h2⟩ := hf 2 _ c2 rfl rfl
  obtain ⟨y3, h3⟩ := hf 3 _ c3 rfl rfl
  obtain ⟨a0, e0, _, w0⟩ := DataW.trod_int Try.underlying22 h0
  obtain ⟨a1, e1, _, _⟩ := DataW.trod_string Try.underlying9 h1
  obtain ⟨a2, e2, _, w2⟩ := DataW.trod_int Try.underlying31 h2
  obtain ⟨a3, e3, _⟩ := DataW.trod_bool Try.underlying4 h3
  injection e0 with e0
  injection e1 with e1
  injection e2 with e2
  injection e3 with e3
  subst e0 e1 e2 e3
  have b0 := bounds_u32 w0
  have b2 := bounds_u8 w2
  refine ⟨⟨UInt32.ofNat a0.toNat, a1, UInt8.ofNat a2.toNat, a3⟩, ?_⟩
  unfold fdV
  rw [ofNat32 (by omega), ofNat8 (by omega)]
  congr 2
  · congr 1; omega
  · congr 2
    · congr 1; omega
theorem open_fds {cs : List Value} {x : DataW H × List MemPlace} (h : DataW.trod enc Try.prog w base (fun _ => true) held fuel 23 cs = some x) : ∃ (A : Option Addr) (n c : Nat) (l : List Fd), cs = [.slice A n c] ∧ Rd w w.heap.size 4 A n c (fdsV l) := by
  rcases open_slice Try.underlying23 h with ⟨h0, _⟩ | ⟨a, len, cap, m, n, D, Pl, hcs, hb, hl, hm, hmm, hx, hi⟩
  · exact ⟨none, 0, 0, [], h0, Rd.nil _ _ _⟩
  · rw [if_pos rfl] at hmm
    have each : ∀ i, i < len → ∃ f : Fd, ∀ j, j < 4 → w.cell? (a.add (i * 4 + j)) = (fdV f)[j]? := by
      intro i him
      obtain ⟨cs', hc, ht'⟩ := hi i (by omega)
      rw [cells_fd] at hc
      obtain ⟨_, hcl, hat⟩ := World.cells?_some hc
      obtain ⟨f, rfl⟩ := open_fd hcl ht'
      refine ⟨f, fun j hj => ?_⟩
      have := hat j hj
      rwa [Go.Deep.add_add] at this
    obtain ⟨F, hF⟩ := choose_lt each
    refine ⟨some a, len, cap, (List.range len).map F, hcs, ?_⟩
    refine ⟨by rw [fdsV_length]; simp, hl, hm, fun hn => ?_⟩
    obtain ⟨b, off, spot⟩ := a
    have hc0 := hF 0 hn 0 (by omega)
    have hspot : spot = none := by
      have := World.cell?_spot (hc0.trans rfl)
      simpa [Addr.add] using this
    subst hspot
    have hblk : b < w.heap.size := World.block_lt_of_cell? w _ (hc0.trans rfl)
    refine ⟨b, off, rfl, hblk, fun j u hu => ?_⟩
    have hjl : j < len * 4 := by
      have := (List.getElem?_eq_some_iff.1 hu).1
      rw [fdsV_length] at this
      simpa using this
    have e := fdsV_get ((List.range len).map F) (j / 4) (j % 4) (by simp; omega) (Nat.mod_lt _ (by omega))
    rw [show j / 4 * 4 + j % 4 = j by omega] at e
    have e2 := hF (j / 4) (by omega) (j % 4) (Nat.mod_lt _ (by omega))
    rw [show j / 4 * 4 + j % 4 = j by omega, Addr.add_lit] at e2
    rw [e2, ← hu, e]
    simp
set_option maxRecDepth 100000 in
theorem frame_schema {W : World} {r : Reach} {v : Value} {d : DataW H} {ps : List MemPlace} {b0 : Nat} (hv : Value.okWide Try.prog W r b0 25 v) (h : DataW.Trod enc Try.prog W base (fun _ => true) held 25 v d ps) :
    ∃ (id : UInt32) (A : Option Addr) (n c : Nat) (l : List Fd), v = .agg #[.int .u32 (id.toNat : Int), .slice A n c] ∧ Rd W W.heap.size 4 A n c (fdsV l) := by
  obtain ⟨v0, v1, y0, y1, n, rfl, _, _, h0, h1⟩ := open_agg2 Try.underlying25 (by kernel_rfl) (by kernel_rfl) hv h
  obtain ⟨a0, e0, _, w0⟩ := DataW.trod_int Try.underlying22 h0
  obtain ⟨A, m, c, l, e1, hr⟩ := open_fds h1
  injection e0 with e0
  injection e1 with e1
  subst e0 e1
  have b0 := bounds_u32 w0
  refine ⟨UInt32.ofNat a0.toNat, A, m, c, l, ?_, hr⟩
  rw [ofNat32 (by omega), show ((a0.toNat : Nat) : Int) = a0 by omega]
end
end Go.Proofs.Ytlccpchlclpnaaa
