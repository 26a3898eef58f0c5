/- THE FRAME's HELPERS for tables: an argument that is a table, or a snapshot, opened to what the walks are told of it. No statement of the seat is proved here; no condition. THE FRAME's HELPER for a snapshot by value. No statement of the seat is proved here; no condition. -/
import Derived.Test.YtlccpchlclpnaaaFrameT
import Derived.Test.YtlccpchlclpnaaaFrameS
import Derived.Test.YtlccpchlclpnaaaMeta
import Derived.Test.YtlccpchlclpnaaaMetaL
namespace Go.Proofs.Ytlccpchlclpnaaa

section
open Go.ChangeShapes Go.WideShapes Go.ChangeAt Go.RowKit Go.Deep Go.Joins

section
variable {H : Type} {enc : TypeId × Value → H} {w : World} {base : Nat} {spare : Nat → Bool} {held : Bool} {fuel : Nat}
theorem cells_sch : Try.prog.cellsOf 25 = 2 := by kernel_rfl
theorem cells_snap : Try.prog.cellsOf 73 = 7 := by kernel_rfl
theorem cells_u64 : Try.prog.cellsOf 68 = 1 := by kernel_rfl
/-- a row of things of k cells, each of which opens -/
theorem open_rows {α : Type} [Inhabited α] {P : Program} (encA : α → List Value) (k : Nat) (hk : ∀ a, (encA a).length = k) {ts te : TypeId} (hts : P.underlying ts = some (.slice te)) (hcl : P.cellsOf te = k) (hk0 : 0 < k) (Q : α → Prop)
    (hopen : ∀ (F : Nat) (cs : List Value) (x : DataW H × List MemPlace), cs.length = k → DataW.trod enc P w base (fun _ => true) held F te cs = some x → ∃ a, cs = encA a ∧ Q a)
    {cs : List Value} {x : DataW H × List MemPlace} (h : DataW.trod enc P w base (fun _ => true) held fuel ts cs = some x) :
    ∃ (A : Option Addr) (n c : Nat) (l : List α), cs = [.slice A n c] ∧ Rd w w.heap.size k A n c (l.flatMap encA) ∧ ∀ a ∈ l, Q a := by
  rcases open_slice hts h with ⟨h0, _⟩ | ⟨a, len, cap, m, n, D, Pl, hcs, hb, hl, hm, hmm, hx, hi⟩
  · exact ⟨none, 0, 0, [], h0, Rd.nil _ _ _, by simp⟩
  · rw [if_pos rfl] at hmm
    have each : ∀ i, i < len → ∃ f : α, (∀ j, j < k → w.cell? (a.add (i * k + j)) = (encA f)[j]?) ∧ Q f := by
      intro i him
      obtain ⟨cs', hc, ht'⟩ := hi i (by omega)
      rw [hcl] at hc
      obtain ⟨_, hcl', hat⟩ := World.cells?_some hc
      obtain ⟨f, rfl, hq⟩ := hopen _ _ _ hcl' ht'
      refine ⟨f, fun j hj => ?_, hq⟩
      have := hat j hj
      rwa [Go.Deep.add_add] at this
    obtain ⟨F, hF⟩ := choose_lt each
    refine ⟨some a, len, cap, (List.range len).map F, hcs, ?_, fun f hf => ?_⟩
    · refine ⟨by rw [flat_len encA k hk]; simp, hl, hm, fun hn => ?_⟩
      obtain ⟨b, off, spot⟩ := a
      have hc0 := (hF 0 hn).1 0 hk0
      have hx0 : ∃ v, (encA (F 0))[0]? = some v := ⟨_, List.getElem?_eq_getElem (by rw [hk]; exact hk0)⟩
      obtain ⟨v0, hv0⟩ := hx0
      have hspot : spot = none := by
        have := World.cell?_spot (hc0.trans hv0)
        simpa [Addr.add] using this
      subst hspot
      have hblk : b < w.heap.size := by
        have := World.block_lt_of_cell? w _ (hc0.trans hv0)
        rw [Addr.add_lit] at this
        exact this
      refine ⟨b, off, rfl, hblk, fun j u hu => ?_⟩
      have hjl : j < len * k := by
        have := (List.getElem?_eq_some_iff.1 hu).1
        rw [flat_len encA k hk] at this
        simpa using this
      have hd : j / k < len := Nat.div_lt_of_lt_mul (by rw [Nat.mul_comm]; exact hjl)
      have hm : j % k < k := Nat.mod_lt _ hk0
      have hjk : j / k * k + j % k = j := by rw [Nat.mul_comm]; exact Nat.div_add_mod j k
      have e := flat_get encA k hk ((List.range len).map F) (j / k) (j % k) (by simpa using hd) hm
      rw [hjk] at e
      have e2 := (hF (j / k) hd).1 (j % k) hm
      rw [hjk, Addr.add_lit] at e2
      rw [e2, ← hu, e]
      simp
    · obtain ⟨i, hi', rfl⟩ := List.mem_map.1 hf
      exact (hF i (by simpa using hi')).2
theorem list2 {α : Type} {cs : List α} (h : cs.length = 2) : ∃ a b, cs = [a, b] := by
  match cs, h with
  | [a, b], _ => exact ⟨a, b, rfl⟩
theorem list7 {α : Type} {cs : List α} (h : cs.length = 7) : ∃ a b c d e f g, cs = [a, b, c, d, e, f, g] := by
  match cs, h with
  | [a, b, c, d, e, f, g], _ => exact ⟨a, b, c, d, e, f, g, rfl⟩
theorem ofNat64 {n : Nat} (h : n < 18446744073709551616) : (UInt64.ofNat n).toNat = n := by rw [UInt64.toNat_ofNat']; omega
theorem open_sl {cs : List Value} {x : DataW H × List MemPlace} (hl : cs.length = 2) (h : DataW.trod enc Try.prog w base (fun _ => true) held fuel 25 cs = some x) : ∃ s : Sl, cs = slV s ∧ Rd w w.heap.size 4 s.A s.fs.length s.c (fdsV s.fs) := by
  obtain ⟨n, hf⟩ := trod_at Try.underlying25 (by kernel_rfl) h hl
  obtain ⟨c0, c1, rfl⟩ := list2 hl
  obtain ⟨y0, h0⟩ := hf 0 _ c0 rfl rfl
  obtain ⟨y1, h1⟩ := hf 1 _ c1 rfl rfl
  obtain ⟨a0, e0, _, w0⟩ := DataW.trod_int Try.underlying22 h0
  obtain ⟨A, m, c, l, e1, hr⟩ := open_fds h1
  injection e0 with e0
  injection e1 with e1
  subst e0 e1
  obtain rfl := hr.lenF
  have b0 := bounds_u32 w0
  refine ⟨⟨UInt32.ofNat a0.toNat, l, A, c⟩, ?_, hr⟩
  unfold slV
  rw [ofNat32 (by omega), show ((a0.toNat : Nat) : Int) = a0 by omega]
theorem open_nl {cs : List Value} {x : DataW H × List MemPlace} (hl : cs.length = 7) (h : DataW.trod enc Try.prog w base (fun _ => true) held fuel 73 cs = some x) : ∃ s : Nl, cs = nlV s ∧ Rd w w.heap.size 1 s.A s.p.ms.length s.c (strsV s.p.ms) := by
  obtain ⟨n, hf⟩ := trod_at Try.underlying73 (by kernel_rfl) h hl
  obtain ⟨c0, c1, c2, c3, c4, c5, c6, rfl⟩ := list7 hl
  obtain ⟨y0, h0⟩ := hf 0 _ c0 rfl rfl
  obtain ⟨y1, h1⟩ := hf 1 _ c1 rfl rfl
  obtain ⟨y2, h2⟩ := hf 2 _ c2 rfl rfl
  obtain ⟨y3, h3⟩ := hf 3 _ c3 rfl rfl
  obtain ⟨y4, h4⟩ := hf 4 _ c4 rfl rfl
  obtain ⟨y5, h5⟩ := hf 5 _ c5 rfl rfl
  obtain ⟨y6, h6⟩ := hf 6 _ c6 rfl rfl
  obtain ⟨a0, e0, _, w0⟩ := DataW.trod_int Try.underlying68 h0
  obtain ⟨a1, e1, _, w1⟩ := DataW.trod_int Try.underlying68 h1
  obtain ⟨a2, e2, _, w2⟩ := DataW.trod_int Try.underlying68 h2
  obtain ⟨a3, e3, _, w3⟩ := DataW.trod_int Try.underlying68 h3
  obtain ⟨a4, e4, _, w4⟩ := DataW.trod_int Try.underlying68 h4
  obtain ⟨a5, e5, _, w5⟩ := DataW.trod_int Try.underlying22 h5
  obtain ⟨A, m, c, l, e6, hr⟩ := open_sts h6
  injection e0 with e0
  injection e1 with e1
  injection e2 with e2
  injection e3 with e3
  injection e4 with e4
  injection e5 with e5
  injection e6 with e6
  subst e0 e1 e2 e3 e4 e5 e6
  obtain rfl := hr.lenT
  have b0 := bounds_u64 w0
  have b1 := bounds_u64 w1
  have b2 := bounds_u64 w2
  have b3 := bounds_u64 w3
  have b4 := bounds_u64 w4
  have b5 := bounds_u32 w5
  refine ⟨⟨⟨UInt64.ofNat a0.toNat, UInt64.ofNat a1.toNat, UInt64.ofNat a2.toNat, UInt64.ofNat a3.toNat, UInt64.ofNat a4.toNat, UInt32.ofNat a5.toNat, l⟩, A, c⟩, ?_, hr⟩
  unfold nlV
  rw [ofNat64 (by omega), ofNat64 (by omega), ofNat64 (by omega), ofNat64 (by omega), ofNat64 (by omega), ofNat32 (by omega)]
  rw [show ((a0.toNat : Nat) : Int) = a0 by omega, show ((a1.toNat : Nat) : Int) = a1 by omega, show ((a2.toNat : Nat) : Int) = a2 by omega, show ((a3.toNat : Nat) : Int) = a3 by omega, show ((a4.toNat : Nat) : Int) = a4 by omega, show ((a5.toNat : Nat) : Int) = a5 by omega]
set_option maxRecDepth 100000 in
theorem frame_table {W : World} {r : Reach} {v : Value} {d : DataW H} {ps : List MemPlace} {b0 : Nat} (hv : Value.okWide Try.prog W r b0 70 v) (h : DataW.Trod enc Try.prog W base (fun _ => true) held 70 v d ps) :
    ∃ (sA : Option Addr) (sc : Nat) (ss : List Sl) (nA : Option Addr) (nc : Nat) (ns : List Nl) (cur : UInt64), v = .agg #[.slice sA ss.length sc, .slice nA ns.length nc, .int .u64 (cur.toNat : Int)] ∧ TabR W W.heap.size sA sc ss nA nc ns := by
  obtain ⟨v0, v1, v2, y0, y1, y2, n, rfl, _, _, h0, h1, h2⟩ := open_agg3 Try.underlying70 (by kernel_rfl) (by kernel_rfl) hv h
  obtain ⟨sA, m, sc, ss, e0, hs, hsi⟩ := open_rows slV 2 slV_length Try.underlying66 cells_sch (by omega) _ (fun F cs x hl h => open_sl hl h) h0
  obtain ⟨nA, m2, nc, ns, e1, hn, hni⟩ := open_rows nlV 7 nlV_length Try.underlying67 cells_snap (by omega) _ (fun F cs x hl h => open_nl hl h) h1
  obtain ⟨a2, e2, _, w2⟩ := DataW.trod_int Try.underlying68 h2
  injection e0 with e0
  injection e1 with e1
  injection e2 with e2
  subst e0 e1 e2
  have b2 := bounds_u64 w2
  obtain rfl := Rd.lenS hs
  obtain rfl := Rd.lenN hn
  refine ⟨sA, sc, ss, nA, nc, ns, UInt64.ofNat a2.toNat, ?_, hs, hsi, hn, hni⟩
  rw [ofNat64 (by omega), show ((a2.toNat : Nat) : Int) = a2 by omega]
end
end

section
open Go.ChangeShapes Go.WideShapes Go.ChangeAt Go.RowKit Go.Deep Go.Joins

section
variable {H : Type} {enc : TypeId × Value → H} {base : Nat} {held : Bool}
set_option maxRecDepth 100000 in
theorem frame_snap {W : World} {r : Reach} {v : Value} {d : DataW H} {ps : List MemPlace} {b0 : Nat} (hv : Value.okWide Try.prog W r b0 73 v) (h : DataW.Trod enc Try.prog W base (fun _ => true) held 73 v d ps) :
    ∃ (p : Sn) (A : Option Addr) (c : Nat), v = .agg #[.int .u64 (p.id.toNat : Int), .int .u64 (p.par.toNat : Int), .int .u64 (p.seq.toNat : Int), .int .u64 (p.off.toNat : Int), .int .u64 (p.tim.toNat : Int), .int .u32 (p.sch.toNat : Int), .slice A p.ms.length c] ∧ Rd W W.heap.size 1 A p.ms.length c (strsV p.ms) := by
  obtain ⟨cs, rfl, hsz⟩ := okWide_struct Try.underlying73 hv
  obtain ⟨F, hf⟩ := h
  have hl : (Value.agg cs).cells.toList.length = 7 := by
    rw [cells_snap] at hsz
    simpa [Value.cells] using hsz
  obtain ⟨s, e, hr⟩ := open_nl hl hf
  refine ⟨s.p, s.A, s.c, ?_, hr⟩
  have e2 : cs = (nlV s).toArray := by
    rw [← e]
    simp [Value.cells]
  rw [e2]
  rfl
/-- ids by value -/
theorem ids_of {W : World} {A : Option Addr} {n c : Nat} {zs : List Int} (h : Rd W W.heap.size 1 A n c (zs.map (.int .u64))) (hz : ∀ z ∈ zs, 0 ≤ z ∧ z ≤ 18446744073709551615) : ∃ ids : List UInt64, n = ids.length ∧ Rd W W.heap.size 1 A n c (u64sV ids) := by
  have e : u64sV (zs.map fun z => UInt64.ofNat z.toNat) = zs.map (.int .u64) := by
    unfold u64sV
    rw [List.map_map]
    refine List.map_congr_left fun z hm => ?_
    obtain ⟨h0, h1⟩ := hz z hm
    show Value.int .u64 ((UInt64.ofNat z.toNat).toNat : Int) = _
    rw [ofNat64 (by omega), show ((z.toNat : Nat) : Int) = z by omega]
  rw [← e] at h
  exact ⟨_, h.lenU, h⟩
end
end
end Go.Proofs.Ytlccpchlclpnaaa
