/- WORDS for rows of one's own that are written in place; the closure of Drop. No statement of the seat is proved here; no condition. THE WALK of slices.DeleteFunc at snapshots, in place. No statement of the seat is proved here; no condition but the row's size. THE WALK of meta's Drop, whole. No statement of the seat is proved here; no condition but the table's size. -/
import Derived.Test.YtlccpchlclpnaaaMetaC
import Derived.Lib.SliceRun
import Derived.Test.YtlccpchlclpnaaaMetaB
namespace Go.Proofs.Ytlccpchlclpnaaa

section
open Go.RowKit

section
variable {w w' : World} {B sz g n c : Nat} {e : TypeId} {xs : List Value}
theorem own_blk (h : w.ownsRow B e sz (.slice (some ⟨g, 0, none⟩) n c) n xs) : ∃ cur, w.heap[g]? = some (.cells cur e (0, 0)) ∧ B ≤ g ∧ cur.size = c * sz ∧ n ≤ c ∧ c ≤ maxLen ∧ cur.toList.take (n * sz) = xs ∧ xs.length = n * sz := by
  obtain ⟨hl, h2⟩ := h
  rcases h2 with ⟨q, _⟩ | ⟨g', cap, cur, q, hb, hc, hn, hm, hs, ht⟩
  · cases q
  · injection q with q1 q2 q3
    injection q1 with q1
    injection q1 with q1
    subst q1 q3
    exact ⟨cur, hc, hb, hs, hn, hm, ht, hl⟩
theorem own_set1 (h : w.ownsRow B e sz (.slice (some ⟨g, 0, none⟩) n c) n xs) (k : Nat) (u : Value) : (w.setCell ⟨g, k, none⟩ u).ownsRow B e sz (.slice (some ⟨g, 0, none⟩) n c) n (xs.set k u) := by
  obtain ⟨cur, hc, hb, hs, hn, hm, ht, hl⟩ := own_blk h
  refine ⟨by simp [hl], .inr ⟨g, c, cur.setIfInBounds k u, rfl, hb, ?_, hn, hm, by simpa using hs, ?_⟩⟩
  · simp [World.setCell, Array.getElem?_modify, hc]
  · rw [Array.toList_setIfInBounds, List.take_set, ht]
theorem own_free (h : w.ownsRow B e sz (.slice (some ⟨g, 0, none⟩) n c) n xs) (k : Nat) : w.frozen? ⟨g, k, none⟩ = false := by
  obtain ⟨cur, hc, _⟩ := own_blk h
  simp [World.frozen?, hc]
theorem own_lt (h : w.ownsRow B e sz (.slice (some ⟨g, 0, none⟩) n c) n xs) : B ≤ g ∧ g < w.heap.size := by
  obtain ⟨cur, hc, hb, _⟩ := own_blk h
  exact ⟨hb, (Array.getElem?_eq_some_iff.1 hc).1⟩
/-- rows of another type stand while one's own is written in place -/
theorem own_othT {base sz2 n2 : Nat} {e2 : TypeId} {v2 : Value} {xs2 : List Value} (h2 : w.ownsRow base e2 sz2 v2 n2 xs2) (h : w.ownsRow B e sz (.slice (some ⟨g, 0, none⟩) n c) n xs) (ho : Oth g w w') (hne : e2 ≠ e) : w'.ownsRow base e2 sz2 v2 n2 xs2 := by
  obtain ⟨cur, hc, _⟩ := own_blk h
  refine h2.kept (row := some g) ⟨ho.os, ho.tape, ho.output, ho.size, fun k hk hne => ho.block k hk (fun q => hne (by rw [q]))⟩ ?_
  rcases h2.2 with ⟨rfl, _⟩ | ⟨g2, cap2, cur2, rfl, _, hc2, _⟩
  · exact .inl rfl
  · refine .inr fun q => ?_
    simp only [Value.ownBlock] at q
    injection q with q
    subst q
    rw [hc] at hc2
    injection hc2 with hc2
    injection hc2 with _ q2 _
    exact hne q2.symm
end
theorem nlsV_cons (a : Nl) (l : List Nl) : nlsV (a :: l) = nlV a ++ nlsV l := rfl
theorem nlsV_set (v : Nl) {v0 v1 v2 v3 v4 v5 v6 : Value} (hv : nlV v = [v0, v1, v2, v3, v4, v5, v6]) : ∀ (arr : List Nl) (i : Nat), i < arr.length →
    (((((((nlsV arr).set (i * 7) v0).set (i * 7 + 1) v1).set (i * 7 + 2) v2).set (i * 7 + 3) v3).set (i * 7 + 4) v4).set (i * 7 + 5) v5).set (i * 7 + 6) v6 = nlsV (arr.set i v)
  | a :: arr, 0, _ => by
    rw [List.set_cons_zero, nlsV_cons, nlsV_cons, hv]
    simp [nlV]
  | a :: arr, i + 1, h => by
    have ih := nlsV_set v hv arr i (by simpa using h)
    rw [List.set_cons_succ, nlsV_cons, nlsV_cons, ← ih]
    have e : ∀ t, (i + 1) * 7 + t = (i * 7 + t) + 1 + 1 + 1 + 1 + 1 + 1 + 1 := fun t => by omega
    have e0 : (i + 1) * 7 = (i * 7) + 1 + 1 + 1 + 1 + 1 + 1 + 1 := by omega
    rw [e 1, e 2, e 3, e 4, e 5, e 6, e0]
    simp [nlV]
end

section
open Go.RowKit

theorem oth_set (g k : Nat) (w : World) (u : Value) : Oth g w (w.setCell ⟨g, k, none⟩ u) :=
  ⟨rfl, rfl, rfl, by simp [World.setCell], fun j _ hne => by simp [World.setCell, Array.getElem?_modify, Ne.symm hne]⟩
section
variable {w : World} {B sz g n c : Nat} {e : TypeId} {xs : List Value}
theorem own_sets : ∀ (L : List Value) (w : World) (xs : List Value) (o : Nat), w.ownsRow B e sz (.slice (some ⟨g, 0, none⟩) n c) n xs →
    ∃ xs', (w.setCells g o L).ownsRow B e sz (.slice (some ⟨g, 0, none⟩) n c) n xs' ∧ (∀ m, m ≤ o → xs'.take m = xs.take m) ∧ Oth g w (w.setCells g o L)
  | [], w, xs, o, h => ⟨xs, h, fun _ _ => rfl, Oth.refl _ _⟩
  | v :: L, w, xs, o, h => by
    obtain ⟨xs', h', ht, ho⟩ := own_sets L (w.setCell ⟨g, o, none⟩ v) (xs.set o v) (o + 1) (own_set1 h o v)
    refine ⟨xs', h', fun m hm => ?_, (oth_set g o w v).trans ho⟩
    rw [ht m (by omega), List.take_set_of_le hm]
theorem own_cut (h : w.ownsRow B e sz (.slice (some ⟨g, 0, none⟩) n c) n xs) {i : Nat} (hi : i ≤ n) : w.ownsRow B e sz (.slice (some ⟨g, 0, none⟩) i c) i (xs.take (i * sz)) := by
  obtain ⟨cur, hc, hb, hs, hn, hm, ht, hl⟩ := own_blk h
  have hle : i * sz ≤ n * sz := Nat.mul_le_mul_right _ hi
  refine ⟨by rw [List.length_take, hl]; omega, .inr ⟨g, c, cur, rfl, hb, hc, by omega, hm, hs, ?_⟩⟩
  rw [← ht, List.take_take, Nat.min_eq_left hle]
theorem own_cell (h : w.ownsRow B e sz (.slice (some ⟨g, 0, none⟩) n c) n xs) {j : Nat} (hj : j < n * sz) : (w.cell? ⟨g, j, none⟩).isSome = true := by
  obtain ⟨cur, hc, hb, hs, hn, hm, ht, hl⟩ := own_blk h
  have : j < cur.size := by have := Nat.mul_le_mul_right sz hn; omega
  simp [World.cell?, hc, this]
end
theorem run_clear_rows (w : World) (g o n c : Nat) (hn : 0 < n) (hc : ∀ j, j < n * 7 → (w.cell? ⟨g, o + j, none⟩).isSome = true) (hf : ∀ j, j < n * 7 → w.frozen? ⟨g, o + j, none⟩ = false) :
    ∃ L : List Value, ∀ ty, (Builtin.clear_ #[67] ty #[.slice (some ⟨g, o, none⟩) n c]).run Try.prog w = .ok (.tuple #[]) (w.setCells g o L) := by
  have hsz : (Builtin.zeroCells (Value.agg #[.int .u64 0, .int .u64 0, .int .u64 0, .int .u64 0, .int .u64 0, .int .u32 0, .slice none 0 0]).cells n).toList.length = n * 7 := by
    simp [Builtin.zeroCells]
    rfl
  have hone : ∀ v ∈ (Builtin.zeroCells (Value.agg #[.int .u64 0, .int .u64 0, .int .u64 0, .int .u64 0, .int .u64 0, .int .u32 0, .slice none 0 0]).cells n).toList, v.oneCell' = true := by
    intro v hv
    simp only [Builtin.zeroCells, Array.toList_map, List.mem_map] at hv
    obtain ⟨i, _, rfl⟩ := hv
    have e : (Value.agg #[.int .u64 0, .int .u64 0, .int .u64 0, .int .u64 0, .int .u64 0, .int .u32 0, .slice none 0 0]).cells = #[.int .u64 0, .int .u64 0, .int .u64 0, .int .u64 0, .int .u64 0, .int .u32 0, .slice none 0 0] := rfl
    rw [e]
    have h7 : i % 7 < 7 := Nat.mod_lt _ (by decide)
    show ((#[.int .u64 0, .int .u64 0, .int .u64 0, .int .u64 0, .int .u64 0, .int .u32 0, .slice none 0 0] : Array Value)[i % 7]!).oneCell' = true
    generalize i % 7 = k at h7
    match k, h7 with
    | 0, _ => rfl
    | 1, _ => rfl
    | 2, _ => rfl
    | 3, _ => rfl
    | 4, _ => rfl
    | 5, _ => rfl
    | 6, _ => rfl
  have hst := run_storeCells_cells (P := Try.prog) g o (Builtin.zeroCells (Value.agg #[.int .u64 0, .int .u64 0, .int .u64 0, .int .u64 0, .int .u64 0, .int .u32 0, .slice none 0 0]).cells n).toList 0 w (by rw [hsz]; simpa using hc) (by rw [hsz]; simpa using hf) hone
  refine ⟨(Builtin.zeroCells (Value.agg #[.int .u64 0, .int .u64 0, .int .u64 0, .int .u64 0, .int .u64 0, .int .u32 0, .slice none 0 0]).cells n).toList, fun ty => ?_⟩
  simp only [Nat.add_zero] at hst
  obtain ⟨m, rfl⟩ : ∃ m, n = m + 1 := ⟨n - 1, by omega⟩
  simp [Builtin.clear_, run_underlying Try.underlying67, tySnaps.zs, hst]
/-- what a closure gives, whatever was laid meanwhile, and whatever stands in block g -/
def PredO (w : World) (g fn : Nat) (lb : Array Value) (p : Nl → Bool) : Prop :=
  ∀ (W : World) (f : Nl), Oth g w W → Calls Try.prog fn (#[.agg #[.int .u64 (f.p.id.toNat : Int), .int .u64 (f.p.par.toNat : Int), .int .u64 (f.p.seq.toNat : Int), .int .u64 (f.p.off.toNat : Int), .int .u64 (f.p.tim.toNat : Int), .int .u32 (f.p.sch.toNat : Int), .slice f.A f.p.ms.length f.c]] ++ lb) W fun e w' => e = .returned (.bool (p f)) ∧ Below W.heap.size W w'
theorem nlsV_take : ∀ (l : List Nl) (k : Nat), (nlsV l).take (k * 7) = nlsV (l.take k)
  | [], k => by simp [nlsV]
  | a :: l, 0 => by simp [nlsV]
  | a :: l, k + 1 => by
    rw [List.take_succ_cons, nlsV_cons, nlsV_cons, ← nlsV_take l k, show (k + 1) * 7 = (nlV a).length + k * 7 by rw [nlV_length]; omega, List.take_length_add_append]
theorem ix_hit {α : Type} [Inhabited α] {p : α → Bool} {l : List α} {k : Nat} (h : ixA p l = (k : Int)) : k < l.length ∧ p (l.getD k default) = true ∧ ∀ j, j < k → p (l.getD j default) = false := by
  obtain ⟨h1, _, h3⟩ := ixA_at h (by omega)
  rw [Int.toNat_natCast] at h1 h3
  refine ⟨h1, h3, fun j hj => ?_⟩
  unfold ixA at h
  split at h
  · have hk : l.findIdx p = k := by omega
    have := List.not_of_lt_findIdx (p := p) (xs := l) (i := j) (by omega)
    simpa [List.getD, show j < l.length by omega] using this
  · omega
theorem ix_miss {α : Type} {p : α → Bool} {l : List α} (h : ixA p l = -1) : l.filter (fun f => !p f) = l := by
  unfold ixA at h
  split at h
  · omega
  · rename_i ha
    rw [List.filter_eq_self]
    intro a hm
    have : l.any p = false := by simpa using ha
    rw [List.any_eq_false] at this
    simp [this a hm]
theorem filt_start {α : Type} [Inhabited α] {p : α → Bool} {l : List α} {k : Nat} (hk : k < l.length) (h1 : p (l.getD k default) = true) (h2 : ∀ j, j < k → p (l.getD j default) = false) : (l.take (k + 1)).filter (fun f => !p f) = l.take k := by
  rw [List.take_add_one, List.filter_append]
  have e : l[k]?.toList = [l.getD k default] := by simp [List.getD, hk]
  rw [e]
  have e2 : (l.take k).filter (fun f => !p f) = l.take k := by
    rw [List.filter_eq_self]
    intro a ha
    obtain ⟨j, hj, rfl⟩ := List.getElem_of_mem ha
    rw [List.length_take] at hj
    have := h2 j (by omega)
    rw [List.getElem_take]
    simpa [List.getD, show j < l.length by omega] using this
  rw [e2, List.filter_cons_of_neg (by rw [h1]; decide), List.filter_nil, List.append_nil]
theorem filt_step {α : Type} [Inhabited α] {p : α → Bool} {l : List α} {j : Nat} (hj : j < l.length) : (l.take (j + 1)).filter (fun f => !p f) = (l.take j).filter (fun f => !p f) ++ (if p (l.getD j default) = true then [] else [l.getD j default]) := by
  rw [List.take_add_one, List.filter_append]
  have e : l[j]?.toList = [l.getD j default] := by simp [List.getD, hj]
  rw [e]
  cases h : p (l.getD j default) with
  | true => rw [List.filter_cons_of_neg (by rw [h]; decide), List.filter_nil, if_pos rfl]
  | false => rw [List.filter_cons_of_pos (by rw [h]; rfl), List.filter_nil, if_neg (by decide)]
theorem drop_getD {α : Type} [Inhabited α] {a b : List α} {j : Nat} (h : a.drop j = b.drop j) : a.getD j default = b.getD j default := by
  have := congrArg (fun l => l[0]?) h
  simp only [List.getElem?_drop, Nat.add_zero] at this
  simp [List.getD, this]
theorem drop_step {α : Type} {a b : List α} {j : Nat} (h : a.drop j = b.drop j) : a.drop (j + 1) = b.drop (j + 1) := by
  have := congrArg (fun l => l.drop 1) h
  simpa [List.drop_drop] using this
theorem own_nl {w : World} {B g c n j : Nat} {arr : List Nl} (h : w.ownsRow B 73 7 (.slice (some ⟨g, 0, none⟩) n c) n (nlsV arr)) (hl : arr.length = n) (hj : j < n) :
    w.cell? ⟨g, j * 7, none⟩ = some (.int .u64 ((arr.getD j default).p.id.toNat : Int)) ∧ w.cell? ⟨g, j * 7 + 1, none⟩ = some (.int .u64 ((arr.getD j default).p.par.toNat : Int)) ∧ w.cell? ⟨g, j * 7 + 2, none⟩ = some (.int .u64 ((arr.getD j default).p.seq.toNat : Int)) ∧
    w.cell? ⟨g, j * 7 + 3, none⟩ = some (.int .u64 ((arr.getD j default).p.off.toNat : Int)) ∧ w.cell? ⟨g, j * 7 + 4, none⟩ = some (.int .u64 ((arr.getD j default).p.tim.toNat : Int)) ∧ w.cell? ⟨g, j * 7 + 5, none⟩ = some (.int .u32 ((arr.getD j default).p.sch.toNat : Int)) ∧
    w.cell? ⟨g, j * 7 + 6, none⟩ = some (.slice (arr.getD j default).A (arr.getD j default).p.ms.length (arr.getD j default).c) := by
  obtain ⟨b, off, e, _, f0, f1, f2, f3, f4, f5, f6⟩ := (rd_own h).nl (i := j) (by omega)
  injection e with e
  injection e with e1 e2
  subst e1 e2
  simp only [Nat.zero_add] at f0 f1 f2 f3 f4 f5 f6
  exact ⟨f0, f1, f2, f3, f4, f5, f6⟩
set_option maxRecDepth 100000 in
set_option maxHeartbeats 4000000 in
theorem deleteN (w : World) (B g c : Nat) (l : List Nl) (ho : w.ownsRow B 73 7 (.slice (some ⟨g, 0, none⟩) l.length c) l.length (nlsV l)) (hmax : l.length ≤ 1000000) (fn : Nat) (lb : Array Value) (p : Nl → Bool)
    (eg : ∀ args w, (callFunc fn args).run Try.prog w = .ok (.enter fn args) w) (hp : PredO w g fn lb p) :
    Calls Try.prog 80 #[.slice (some ⟨g, 0, none⟩) l.length c, .func (.func fn) #[] lb] w fun e w' => ∃ l', l' = l.filter (fun f => !p f) ∧ e = .returned (.slice (some ⟨g, 0, none⟩) l'.length c) ∧ w'.ownsRow B 73 7 (.slice (some ⟨g, 0, none⟩) l'.length c) l'.length (nlsV l') ∧ Oth g w w' := by
  have hgl := own_lt ho
  go_enter Try.func80, Try.ntmps80
  go_wp2_with fail
  refine (indexN w l.length c (some ⟨g, 0, none⟩) l (rd_own ho) hmax fn lb p eg (fun W f hb => (hp W f (Oth.of hb)).mono fun e w' h => ⟨h.1, below_call hb hb.size h.2⟩)).mono ?_
  rintro e w1 ⟨rfl, hb1⟩
  have O1 := own_below ho hb1
  rcases ixA_cases p l with ⟨k, hik, hk⟩ | him
  · rw [hik]
    obtain ⟨_, hpk, hpj⟩ := ix_hit hik
    have HST := hide (filt_start hk hpk hpj)
    have hne1 : ((k : Int) == -1) = false := by rw [beq_eq_false_iff_ne]; omega
    have HP := hide hp
    clear hik hpk hpj hp
    go_wp2_with fail
    go_loopw [5, 6] (fun iv jv wr => ∃ (i j : Nat) (arr : List Nl), iv = .int .i64 (i : Int) ∧ jv = .int .i64 (j : Int) ∧ i < j ∧ j ≤ l.length ∧ Hid (arr.length = l.length) ∧ Hid (arr.take i = (l.take j).filter (fun f => !p f)) ∧ Hid (arr.drop j = l.drop j) ∧ wr.ownsRow B 73 7 (.slice (some ⟨g, 0, none⟩) l.length c) l.length (nlsV arr) ∧ Oth g w wr) (fun _ jv _ => l.length - (intOf jv).toNat)
    case atStart => exact ⟨k, k + 1, l, rfl, by go_num, by omega, hk, hide rfl, hide HST.out.symm, hide rfl, O1, Oth.of hb1⟩
    case round =>
      clear hne1
      obtain ⟨i, j, arr, rfl, rfl, hij, hj, hal, htk, hdr, O, hoth⟩ := hrel
      by_cases hlt : j < l.length
      · obtain ⟨f0, f1, f2, f3, f4, f5, f6⟩ := own_nl O hal.out hlt
        rw [drop_getD hdr.out] at f0 f1 f2 f3 f4 f5 f6
        have hfs := filt_step (p := p) hlt
        generalize hf : l.getD j default = f at *
        have HF := hide hf
        have HFS := hide hfs
        clear hf hfs
        have y := boxN_new wr #[.int .u64 (f.p.id.toNat : Int), .int .u64 (f.p.par.toNat : Int), .int .u64 (f.p.seq.toNat : Int), .int .u64 (f.p.off.toNat : Int), .int .u64 (f.p.tim.toNat : Int), .int .u32 (f.p.sch.toNat : Int), .slice f.A f.p.ms.length f.c] 73
        have hbA := (Below.refl wr.heap.size wr).alloc (Nat.le_refl _) (.cells #[.int .u64 (f.p.id.toNat : Int), .int .u64 (f.p.par.toNat : Int), .int .u64 (f.p.seq.toNat : Int), .int .u64 (f.p.off.toNat : Int), .int .u64 (f.p.tim.toNat : Int), .int .u32 (f.p.sch.toNat : Int), .slice f.A f.p.ms.length f.c] 73)
        have O5 := own_below O hbA
        have hoth5 := hoth.trans (Oth.of hbA)
        have g0 := y.cell 0 _ rfl
        have g1 := y.cell 1 _ rfl
        have g2 := y.cell 2 _ rfl
        have g3 := y.cell 3 _ rfl
        have g4 := y.cell 4 _ rfl
        have g5 := y.cell 5 _ rfl
        have g6 := y.cell 6 _ rfl
        have hcall := HP.out _ f hoth5
        cases hq : p f with
        | true =>
          rw [hq] at hcall
          have HQ := hide hq
          clear hq
          go_wp2_with fail
          refine hcall.mono ?_
          rintro e w6 ⟨rfl, hb6⟩
          go_wp2_with fail
          go_roundw
          case rel =>
            refine ⟨i, j + 1, arr, rfl, by go_num, by omega, hlt, hal, hide ?_, hide (drop_step hdr.out), own_below O5 hb6, hoth5.trans (Oth.of hb6)⟩
            rw [HFS.out, HQ.out, htk.out]
            simp
          case measure => simp [intOf]; omega
        | false =>
          rw [hq] at hcall
          have HQ := hide hq
          clear hq
          go_wp2_with fail
          refine hcall.mono ?_
          rintro e w6 ⟨rfl, hb6⟩
          have O6 := own_below O5 hb6
          have y6 := y.keep hb6 y.z
          have hoth6 := hoth5.trans (Oth.of hb6)
          generalize wr.heap.size = b5 at *
          clear f0 f1 f2 f3 f4 f5 f6 g0 g1 g2 g3 g4 g5 g6 hcall
          have g0 := y6.cell 0 _ rfl
          have g1 := y6.cell 1 _ rfl
          have g2 := y6.cell 2 _ rfl
          have g3 := y6.cell 3 _ rfl
          have g4 := y6.cell 4 _ rfl
          have g5 := y6.cell 5 _ rfl
          have g6 := y6.cell 6 _ rfl
          obtain ⟨f0, f1, f2, f3, f4, f5, f6⟩ := own_nl O6 hal.out (show i < l.length by omega)
          have r0 := own_free O6 (i * 7)
          have r1 := own_free O6 (i * 7 + 1)
          have r2 := own_free O6 (i * 7 + 2)
          have r3 := own_free O6 (i * 7 + 3)
          have r4 := own_free O6 (i * 7 + 4)
          have r5 := own_free O6 (i * 7 + 5)
          have r6 := own_free O6 (i * 7 + 6)
          have HO6 := hide (And.intro O6 hoth6)
          have hil : i < l.length := by omega
          clear O O5 O6 hoth hoth5 hoth6 y y6 hbA hb6
          go_wp2_with fail
          go_roundw
          case rel =>
            have O7 := own_set1 (own_set1 (own_set1 (own_set1 (own_set1 (own_set1 (own_set1 HO6.out.1 (i * 7) (.int .u64 (f.p.id.toNat : Int))) (i * 7 + 1) (.int .u64 (f.p.par.toNat : Int))) (i * 7 + 2) (.int .u64 (f.p.seq.toNat : Int))) (i * 7 + 3) (.int .u64 (f.p.off.toNat : Int))) (i * 7 + 4) (.int .u64 (f.p.tim.toNat : Int))) (i * 7 + 5) (.int .u32 (f.p.sch.toNat : Int))) (i * 7 + 6) (.slice f.A f.p.ms.length f.c)
            rw [nlsV_set f rfl arr i (by rw [hal.out]; exact hil)] at O7
            refine ⟨i + 1, j + 1, arr.set i f, by go_num, by go_num, by omega, hlt, hide (by rw [List.length_set]; exact hal.out), hide ?_, hide ?_, O7, ?_⟩
            · rw [HFS.out, HQ.out, ← htk.out, List.take_add_one, List.take_set_of_le (Nat.le_refl _)]
              have : i < arr.length := by rw [hal.out]; exact hil
              simp [this]
            · rw [List.drop_set_of_lt (by omega)]; exact drop_step hdr.out
            · exact ((((((HO6.out.2.trans (oth_set _ _ _ _)).trans (oth_set _ _ _ _)).trans (oth_set _ _ _ _)).trans (oth_set _ _ _ _)).trans (oth_set _ _ _ _)).trans (oth_set _ _ _ _)).trans (oth_set _ _ _ _)
          case measure => simp [intOf]; omega
      · obtain rfl : j = l.length := by omega
        have hcc : l.length ≤ c := (rd_own O).le
        have hne : c ≠ i := by omega
        have hlo := fun W => run_cut_lo tySnaps (some ⟨g, 0, none⟩) l.length c .i64 (i : Int) i rfl (by omega) hcc W
        have hlo2 := fun W => cut_lo tySnaps (some ⟨g, 0, none⟩) l.length c .i64 (i : Int) i rfl (by omega) hcc W
        simp only [if_neg hne, Option.map_some, Addr.add_lit, Nat.zero_add] at hlo hlo2
        have hhi := fun W => run_cut_hi tySnaps (some ⟨g, 0, none⟩) l.length c .i64 (i : Int) i rfl (by omega) W
        have hhi2 := fun W => cut_hi tySnaps (some ⟨g, 0, none⟩) l.length c .i64 (i : Int) i rfl (by omega) W
        have hmul : i * 7 + (l.length - i) * 7 = l.length * 7 := by omega
        obtain ⟨L, hcl⟩ := run_clear_rows wr g (i * 7) (l.length - i) (c - i) (by omega) (fun t ht => own_cell O (by omega)) (fun t _ => own_free O _)
        have HO := hide (And.intro O hoth)
        clear O hoth hmul
        go_wp2_with (simp only [hcl])
        go_ret
        obtain ⟨xs', h', htx, ho'⟩ := own_sets L wr (nlsV arr) (i * 7) HO.out.1
        have hfin : l.filter (fun f => !p f) = arr.take i := by have := htk.out; rw [List.take_length] at this; exact this.symm
        have hlen : (arr.take i).length = i := by rw [List.length_take, hal.out]; omega
        refine ⟨arr.take i, hfin.symm, ?_, ?_, HO.out.2.trans ho'⟩
        · rw [hlen]; rfl
        · rw [hlen]
          have := own_cut h' (i := i) (by omega)
          rw [htx _ (Nat.le_refl _), nlsV_take] at this
          exact this
  · rw [him]
    have HE := hide (ix_miss him)
    clear him
    go_wp2_with fail
    go_ret
    exact ⟨l, HE.out.symm, rfl, O1, Oth.of hb1⟩
end

section
open Go.RowKit

theorem BoxT.oth {w w' : World} {b g : Nat} {cs : List Value} {t : TypeId} (h : BoxT w b cs t) (ho : Oth g w w') (hne : b ≠ g) : BoxT w' b cs t := by
  obtain ⟨arr, ha⟩ := h.ty
  exact ⟨h.bx.oth ho hne, arr, (ho.block b h.bx.z hne).trans ha⟩
/-- 'slices.Contains(ids, s.Id)', ids in a box -/
theorem predDrop (w : World) (g bf B : Nat) (iA : Option Addr) (n ic : Nat) (ids : List UInt64) (hc : w.cell? ⟨bf, 0, none⟩ = some (.slice iA n ic)) (hbf : bf < w.heap.size) (hne : bf ≠ g) (hr : Rd w B 1 iA n ic (u64sV ids)) (hB : B ≤ g) (hBw : B ≤ w.heap.size) (hi : ids.length ≤ 1000000) :
    PredO w g 81 #[.pointer (some ⟨bf, 0, none⟩)] (fun f => isIn ids f.p.id) := fun W f ho => by
  have h1 := (ho.cell (p := ⟨bf, 0, none⟩) hbf hne).trans hc
  have hrW : Rd W B 1 iA n ic (u64sV ids) := hr.keep fun p hp => ho.cell (Nat.lt_of_lt_of_le hp hBw) (by omega)
  have hBW : bf < W.heap.size := Nat.lt_of_lt_of_le hbf ho.size
  have hne2 : bf ≠ W.heap.size := Nat.ne_of_lt hBW
  have hsz : B ≤ W.heap.size := Nat.le_trans hBw ho.size
  show Calls Try.prog 81 #[.agg #[.int .u64 (f.p.id.toNat : Int), .int .u64 (f.p.par.toNat : Int), .int .u64 (f.p.seq.toNat : Int), .int .u64 (f.p.off.toNat : Int), .int .u64 (f.p.tim.toNat : Int), .int .u32 (f.p.sch.toNat : Int), .slice f.A f.p.ms.length f.c], .pointer (some ⟨bf, 0, none⟩)] W _
  clear hc
  go_enter Try.func81, Try.ntmps81
  go_wp2_with fail
  refine (containsU _ B n ic iA ids (hrW.alloc hsz _) hi f.p.id).mono ?_
  rintro e w' ⟨rfl, rfl⟩
  go_wp2_with fail
  go_ret
  exact ⟨rfl, (Below.refl _ _).alloc (Nat.le_refl _) _⟩
theorem deleteN0 (w : World) (fn : Nat) (lb : Array Value) (p : Nl → Bool) (eg : ∀ args w, (callFunc fn args).run Try.prog w = .ok (.enter fn args) w) {g : Nat} (hp : PredO w g fn lb p) :
    Calls Try.prog 80 #[.slice none 0 0, .func (.func fn) #[] lb] w fun e w' => e = .returned (.slice none 0 0) ∧ Below w.heap.size w w' := by
  go_enter Try.func80, Try.ntmps80
  go_wp2_with fail
  refine (indexN w 0 0 none [] (Rd.nil _ _ _) (by decide) fn lb p eg (fun W f hb => (hp W f (Oth.of hb)).mono fun e w' h => ⟨h.1, below_call hb hb.size h.2⟩)).mono ?_
  rintro e w1 ⟨rfl, hb1⟩
  have e1 : ixA p ([] : List Nl) = -1 := rfl
  rw [e1]
  go_wp2_with fail
  go_ret
  exact ⟨rfl, hb1⟩
set_option maxRecDepth 100000 in
set_option maxHeartbeats 4000000 in
theorem metaDrop0 (w : World) (sA : Option Addr) (sc : Nat) (ss : List Sl) (nA : Option Addr) (nc : Nat) (ns : List Nl) (cur : UInt64) (hT : TabR w w.heap.size sA sc ss nA nc ns) (h1 : ss.length ≤ 1000000) (h2 : ∀ s ∈ ss, s.fs.length ≤ 1000000) (h3 : ns.length ≤ 1000000) (h4 : ∀ s ∈ ns, s.p.ms.length ≤ 1000000)
    (ids : List UInt64) (iA : Option Addr) (ic : Nat) (hri : Rd w w.heap.size 1 iA ids.length ic (u64sV ids)) (hi : ids.length ≤ 1000000) (hgood : dropErr (ns.map plN) cur ids = 0) :
    Calls Try.prog 46 #[.agg #[.slice sA ss.length sc, .slice nA ns.length nc, .int .u64 (cur.toNat : Int)], .slice iA ids.length ic] w (StepEnd w 0 (ss.map plS) ((ns.map plN).filter fun s => !isIn ids s.id) cur.toNat) := by
  obtain ⟨P', hP'⟩ : ∃ P', P' = StepEnd w 0 (ss.map plS) ((ns.map plN).filter fun s => !isIn ids s.id) cur.toNat := ⟨_, rfl⟩
  rw [← hP']
  have HP := hide hP'
  have HG := hide hgood
  clear hP' hgood
  go_enter Try.func46, Try.ntmps46
  go_wp2_with fail
  have hb1 := (Below.refl w.heap.size w).alloc (Nat.le_refl _) (.cells #[.slice sA ss.length sc, .slice nA ns.length nc, .int .u64 (cur.toNat : Int)] 70)
  have x1 := boxN_new w #[.slice sA ss.length sc, .slice nA ns.length nc, .int .u64 (cur.toNat : Int)] 70
  have hz1 : (w.alloc (.cells #[.slice sA ss.length sc, .slice nA ns.length nc, .int .u64 (cur.toNat : Int)] 70)).heap.size = w.heap.size + 1 := by simp
  generalize w.alloc (.cells #[.slice sA ss.length sc, .slice nA ns.length nc, .int .u64 (cur.toNat : Int)] 70) = w1 at *
  have x2 := boxN_new w1 #[.slice iA ids.length ic] 83
  have hb2 := (Below.refl w1.heap.size w1).alloc (Nat.le_refl _) (.cells #[.slice iA ids.length ic] 83)
  have hz2 : (w1.alloc (.cells #[.slice iA ids.length ic] 83)).heap.size = w1.heap.size + 1 := by simp
  have x1b := x1.keep hb2 x1.z
  have hB2 := below_call hb1 hb1.size hb2
  generalize w1.alloc (.cells #[.slice iA ids.length ic] 83) = w2 at *
  have x3 := boxN_new w2 #[.slice none 0 0, .slice none 0 0, .int .u64 0] 70
  have hb3 := (Below.refl w2.heap.size w2).alloc (Nat.le_refl _) (.cells #[.slice none 0 0, .slice none 0 0, .int .u64 0] 70)
  have x1c := x1b.keep hb3 x1b.z
  have x2c := x2.keep hb3 x2.z
  have hB3 := below_call hB2 hB2.size hb3
  generalize w2.alloc (.cells #[.slice none 0 0, .slice none 0 0, .int .u64 0] 70) = w3 at *
  have hT3 := hT.later hB3
  have hri3 := (hri.below hB3).more hB3.size
  rw [← hz1, ← hz2]
  have z12 : w.heap.size < w1.heap.size := by omega
  have z23 : w1.heap.size < w2.heap.size := by omega
  have z34 : w2.heap.size < w3.heap.size := x3.z
  generalize hb1e : w.heap.size = b1 at *
  generalize w1.heap.size = b2 at *
  generalize w2.heap.size = b3 at *
  have H1 := hide hb1e
  have c0 := x1c.cell 0 _ rfl
  have c1 := x1c.cell 1 _ rfl
  have c2 := x1c.cell 2 _ rfl
  have c3 := x2c.cell 0 _ rfl
  have HRI := hide hri3
  clear hz1 hz2 hb1 hb2 hb3 x1 x1b x2 hB2 hT hri hb1e
  have zb1 : b1 < w3.heap.size := by omega
  go_loopw [13] (fun iv wr => ∃ k : Nat, k ≤ ids.length ∧ iv = .int .i64 (k : Int) ∧ Hid (∀ j, j < k → hasId (ns.map plN) (ids.getD j default) = true) ∧ Below w3.heap.size w3 wr) (fun iv _ => ids.length - (intOf iv).toNat)
  case atStart => exact ⟨0, Nat.zero_le _, rfl, hide (fun j h => by omega), Below.refl _ _⟩
  case round =>
    clear c0 c1 c2 c3
    obtain ⟨k, hk, rfl, hf, hbr⟩ := hrel
    have X1 := x1c.keep hbr x1c.z
    have X2 := x2c.keep hbr x2c.z
    have X3 := x3.keep hbr x3.z
    have c0 := X1.cell 0 _ rfl
    have c1 := X1.cell 1 _ rfl
    have c2 := X1.cell 2 _ rfl
    have c3 := X2.cell 0 _ rfl
    have hTr := hT3.later hbr
    have hrr := (hri3.below hbr).more hbr.size
    have hzr := hbr.size
    have HX3 := hide X3
    have HBr := hide hbr
    clear X1 X2 X3 hbr
    by_cases hlt : k < ids.length
    · obtain ⟨bi, off, rfl, hbi, fi⟩ := hrr.u64 hlt
      generalize hd : ids.getD k default = id at *
      have HD := hide hd
      clear hd hrr
      go_wp2_with fail
      refine (metaSnap wr sA sc ss nA nc ns cur.toNat hTr h3 h4 id).mono ?_
      rintro e w4 ⟨A4, c4, rfl, hown4, hb4⟩
      have hd := hasId_ix ns id
      generalize decide ((0 : Int) ≤ sIx ns id) = db at hd ⊢
      generalize snAt ns (sIx ns id) = q at *
      have HX4 := hide (HX3.out.keep hb4 (Nat.lt_of_lt_of_le x3.z hzr))
      have hB4 := below_call HBr.out HBr.out.size hb4
      clear hown4 hTr c0 c1 c2 c3 fi
      have hbA := (Below.refl w4.heap.size w4).alloc (Nat.le_refl _) (.cells #[.int .u64 (q.id.toNat : Int), .int .u64 (q.par.toNat : Int), .int .u64 (q.seq.toNat : Int), .int .u64 (q.off.toNat : Int), .int .u64 (q.tim.toNat : Int), .int .u32 (q.sch.toNat : Int), .slice A4 q.ms.length c4] 73)
      have z4 : b3 < w4.heap.size := HX4.out.z
      have hB5 := hide (hB4.alloc hB4.size (.cells #[.int .u64 (q.id.toNat : Int), .int .u64 (q.par.toNat : Int), .int .u64 (q.seq.toNat : Int), .int .u64 (q.off.toNat : Int), .int .u64 (q.tim.toNat : Int), .int .u32 (q.sch.toNat : Int), .slice A4 q.ms.length c4] 73))
      have q3 : w3.heap.size ≤ w4.heap.size := hB4.size
      have HDB := hide hd
      have HB4 := hide hB4
      clear hd hB4 hbA hb4
      cases db with
      | false =>
        have h2 := drop_none (cur := cur) hlt (by rw [HD.out]; exact HDB.out.symm)
        rw [HG.out] at h2
        cases h2
      | true =>
        go_wp2_with fail
        go_roundw
        case rel =>
          refine ⟨k + 1, by omega, by go_num, hide (fun j hj => ?_), hB5.out⟩
          by_cases e : j = k
          · rw [e, HD.out]; exact HDB.out.symm
          · exact hf.out j (by omega)
        case measure => simp [intOf]; omega
    · have hall : ids.all (hasId (ns.map plN)) = true := drop_all (fun j hj => hf.out j (by omega))
      have HI : isIn ids cur = false := by
        have h0 := HG.out
        unfold dropErr at h0
        rw [if_pos hall] at h0
        cases hi : isIn ids cur with
        | true => rw [hi] at h0; cases h0
        | false => rfl
      clear hall hf
      go_wp2_with fail
      refine (containsU wr _ _ _ iA ids hrr hi cur).mono ?_
      unfold isIn at HI
      rw [HI]
      clear HI
      rintro e w4 ⟨rfl, rfl⟩
      go_wp2_with fail
      refine (metaCopied wr sA sc ss nA nc ns cur.toNat hTr h1 h2 h3 h4).mono ?_
      rintro e w5 ⟨oA, oc, sd, pA', pc', nd, rfl, O5, hps, hpn, hb5⟩
      have X3 := HX3.out.keep hb5 HX3.out.z
      have X2 := (x2c.keep HBr.out x2c.z).keep hb5 (x2c.keep HBr.out x2c.z).z
      have hri5 : Rd w5 w3.heap.size 1 iA ids.length ic (u64sV ids) := (HRI.out.below HBr.out).below' hb5 hzr
      have hB5 : Below b1 w w5 := below_call (hB3.trans (HBr.out.mono (by omega))) (by omega) hb5
      have hnl : nd.length = ns.length := by have := congrArg List.length hpn; simpa using this
      have HNL := hide hnl
      have HPS := hide (And.intro hps hpn)
      clear hnl hps hpn
      have y := boxT_new w5 #[.slice oA sd.length oc, .slice pA' nd.length pc', .int .u64 (cur.toNat : Int)] 70
      have hbA := (Below.refl w5.heap.size w5).alloc (Nat.le_refl _) (.cells #[.slice oA sd.length oc, .slice pA' nd.length pc', .int .u64 (cur.toNat : Int)] 70)
      have O6 := O5.keep hbA
      have X36 := X3.keep hbA X3.z
      have X26 := X2.keep hbA X2.z
      have z5 : wr.heap.size ≤ w5.heap.size := hb5.size
      have hri6 := hri5.below' hbA (show w3.heap.size ≤ w5.heap.size by omega)
      have X2c := X26.cell 0 _ rfl
      have X2z := X26.z
      have hBA : Below b1 w _ := below_call hB5 (show b1 ≤ w5.heap.size by omega) hbA
      have zb3 : b3 < wr.heap.size := by omega
      have zb1 : b1 ≤ wr.heap.size := by omega
      have u1 := y.bx.cell 1 _ rfl
      have y5 : w5.heap.size < (w5.alloc (.cells #[.slice oA sd.length oc, .slice pA' nd.length pc', .int .u64 (cur.toNat : Int)] 70)).heap.size := y.bx.z
      go_wp2_with fail
      generalize w5.alloc (.cells #[.slice oA sd.length oc, .slice pA' nd.length pc', .int .u64 (cur.toNat : Int)] 70) = w6 at *
      have hpred : ∀ g, wr.heap.size ≤ g → PredO w6 g 81 #[.pointer (some ⟨b2, 0, none⟩)] (fun f => isIn ids f.p.id) := fun g hg => predDrop w6 g b2 w3.heap.size iA ids.length ic ids X2c X2z (by omega) hri6 (by omega) (by omega) hi
      have hnd : nd.length ≤ 1000000 := by have := HNL.out; omega
      have hgl : ∀ g, pA' = some ⟨g, 0, none⟩ → wr.heap.size ≤ g ∧ g < w5.heap.size := fun g e => own_lt (by have := O5.nown; rw [e] at this; exact this)
      have HDEL : Hid (Calls Try.prog 80 #[.slice pA' nd.length pc', .func (.func 81) #[] #[.pointer (some ⟨b2, 0, none⟩)]] w6 fun e w' => ∃ l', l' = nd.filter (fun f => !isIn ids f.p.id) ∧ e = .returned (.slice pA' l'.length pc') ∧ OwnT w' wr.heap.size oA oc sd pA' pc' l' ∧ BoxT w' w5.heap.size #[.slice oA sd.length oc, .slice pA' nd.length pc', .int .u64 (cur.toNat : Int)].toList 70 ∧ BoxN w' b3 [.slice none 0 0, .slice none 0 0, .int .u64 0] ∧ Below b1 w w') := hide (by
        rcases O6.nown.2 with ⟨eN, hnil⟩ | ⟨g, cap, curc, eN, _, _⟩
        · injection eN with e1 e2 e3
          subst e1 e3
          obtain rfl : nd = [] := List.eq_nil_of_length_eq_zero e2
          refine (deleteN0 w6 81 #[.pointer (some ⟨b2, 0, none⟩)] (fun f => isIn ids f.p.id) (fun args w => enters_of Try.func81 (by kernel_rfl) rfl args w) (hpred _ (Nat.le_refl _))).mono ?_
          rintro e w8 ⟨rfl, hb8⟩
          exact ⟨[], rfl, rfl, O6.keep hb8, y.keep hb8, X36.keep hb8 X36.z, below_call hBA (by have := hBA.size; omega) hb8⟩
        · injection eN with e1 e2 e3
          subst e1 e3
          obtain ⟨g1, g2⟩ := hgl g rfl
          refine (deleteN w6 wr.heap.size g pc' nd O6.nown hnd 81 #[.pointer (some ⟨b2, 0, none⟩)] (fun f => isIn ids f.p.id) (fun args w => enters_of Try.func81 (by kernel_rfl) rfl args w) (hpred g g1)).mono ?_
          rintro e w8 ⟨l', hl', rfl, On, hoth⟩
          refine ⟨l', hl', rfl, ⟨own_othT O6.sown O6.nown hoth (by decide), fun s hs => own_othT (O6.sin s hs) O6.nown hoth (by decide), On, fun s hs => own_othT (O6.nin s (by rw [hl'] at hs; exact (List.mem_filter.1 hs).1)) O6.nown hoth (by decide)⟩, y.oth hoth (by omega), X36.oth hoth (by omega), hBA.trans (hoth.belowB (by omega) (by omega))⟩)
      have HZ := hide (And.intro zb3 (And.intro zb1 z5))
      clear hpred hgl O5 O6 y X36 X26 X2c X2z hBA hbA hb5 hri6 hri5 X3 X2
      refine HDEL.out.mono ?_
      rintro e w8 ⟨l', hl', rfl, O8, y8, X8, hB8⟩
      have c0 := y8.bx.cell 0 _ rfl
      have c1 := y8.bx.cell 1 _ rfl
      have c2 := y8.bx.cell 2 _ rfl
      have f0 := y8.bx.free 1 (by simp)
      have nb : w5.heap.size ≠ b3 := by have := HZ.out; omega
      have nb' : b3 ≠ w5.heap.size := by have := HZ.out; omega
      have k0 := X8.cell 0 _ rfl
      have k1 := X8.cell 1 _ rfl
      have k2 := X8.cell 2 _ rfl
      have q0 := X8.free 0 (by simp)
      have q1 := X8.free 1 (by simp)
      have q2 := X8.free 2 (by simp)
      have HL := hide hl'
      have HO := hide (And.intro O8 (And.intro y8 X8))
      clear hl' O8 y8 X8
      go_wp2_with fail
      (try simp only [Exit.inBlock, Exit.then])
      refine bodyPost_ret (ret_tb2 (b := b3) rfl _ _ rfl (HO.out.2.2.else (p := ⟨w5.heap.size, 1, none⟩) nb _).set3b) rfl ?_
      rw [HP.out]
      refine ⟨oA, oc, sd, pA', pc', l', rfl, ?_, HPS.out.1, ?_, ?_⟩
      · rw [H1.out]
        exact ((HO.out.1.setT HO.out.2.1 1 _).set3b HZ.out.1).base HZ.out.2.1
      · rw [HL.out, ← HPS.out.2, List.filter_map]
        rfl
      · rw [H1.out]
        exact below_set3b (hB8.setCell (p := ⟨w5.heap.size, 1, none⟩) (show b1 ≤ w5.heap.size by have := HZ.out; omega) _) (by omega)
end
end Go.Proofs.Ytlccpchlclpnaaa
