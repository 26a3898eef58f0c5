/- THE WALK of the store's Crash. No statement of the seat is proved here; no condition but sizes. -/
import Derived.Test.YtbgfmcmaklobaaaObL
namespace Go.Proofs.Ytbgfmcmaklobaaa
open Go.RowKit

theorem run_cut_max {P : Program} {t e : TypeId} {sz by_ : Nat} {z : Value} (T : STy P t e sz by_ z) (A : Option Addr) (n c : Nat) (k : IntKind) (h : Int) (hi : Nat) (he : h = (hi : Int)) (h2 : hi ≤ c) (w : World) :
    (Instr.slice t (.slice A n c) none (some (.int k h)) (some (.int k h))).run P w = .ok (.slice A hi hi) w := by
  obtain ⟨i, hi', hz, hs, hb⟩ := info_parts T.inf
  subst he
  have e0 : A.map (fun x => x.add 0) = A := by cases A <;> simp [Addr.add]
  simp [Instr.slice, run_underlying T.ut, Instr.sliceBounds, run_sliceBound, sizeOf, typeInfo, hi', h2, e0]
theorem cut_max {P : Program} {t e : TypeId} {sz by_ : Nat} {z : Value} (T : STy P t e sz by_ z) (A : Option Addr) (n c : Nat) (k : IntKind) (h : Int) (hi : Nat) (he : h = (hi : Int)) (h2 : hi ≤ c) (w : World) :
    (Instr.sliceAt t (.slice A n c) none (some (.int k h)) (some (.int k h))).run P w = .ok (.slice A hi hi) w := by
  simp only [Instr.sliceAt, Sem.run_bind, run_underlying T.ut, Result.andThen]
  exact run_cut_max T A n c k h hi he h2 w
theorem RdP.pre {P : Nat → Prop} {w : World} {A : Option Addr} {c : Nat} {l : List UInt8} (h : RdP w P A l.length c l) (k : Nat) : RdP w P A (l.take k).length (l.take k).length (l.take k) := by
  have hle : (l.take k).length ≤ l.length := by rw [List.length_take]; omega
  have hr := h.rd.pre hle
  have e : (bytesV l).take ((l.take k).length * 1) = bytesV (l.take k) := by
    unfold bytesV
    rw [Nat.mul_one, ← List.map_take]
    congr 1
    rw [List.length_take]
    rcases Nat.le_total k l.length with q | q
    · rw [Nat.min_eq_left q]
    · rw [Nat.min_eq_right q, List.take_length, List.take_of_length_le q]
  rw [e] at hr
  have hcp := h.rd.cap
  have hl := h.rd.le
  exact ⟨⟨hr.len, Nat.le_refl _, by omega, hr.at_⟩, fun hn => h.at_ (by omega)⟩
def So.trunc (s : So) (nm : ByteArray) (n : Nat) : So := match mget s.m nm with
  | none => s
  | some t => { s with m := mput s.m nm ⟨t.bs.take n, false⟩, used := s.used - ((t.bs.length : Int) - ((t.bs.take n).length : Int)) }
def crashAt (s : So) (i : Nat) (nm : ByteArray) (keep : List Int) : So := if keep.length ≤ i ∨ keep.getD i 0 < 0 then s.drop nm else s.trunc nm (keep.getD i 0).toNat
def crashN (s : So) (ns : List ByteArray) (keep : List Int) : Nat → So
  | 0 => s
  | k + 1 => crashAt (crashN s ns keep k) k (ns.getD k ByteArray.empty) keep
def So.crash (s : So) (keep : List Int) : So := { crashN s (looseM s.m) keep (looseM s.m).length with dead := false, fuse := -1, fault := -1 }
theorem So.trunc_some {s : So} {nm : ByteArray} {t : Th} (h : mget s.m nm = some t) (n : Nat) : s.trunc nm n = { s with m := mput s.m nm ⟨t.bs.take n, false⟩, used := s.used - ((t.bs.length : Int) - ((t.bs.take n).length : Int)) } := by unfold So.trunc; rw [h]
theorem So.ok.trunc {s : So} (h : s.ok) {nm : ByteArray} {t : Th} (hg : mget s.m nm = some t) (n : Nat) : (s.trunc nm n).ok := by
  rw [So.trunc_some hg]
  obtain ⟨a, b, c, d, e, f, g, i, j⟩ := h
  have h1 := msum_put j hg ⟨t.bs.take n, false⟩
  have h2 := mget_len j hg
  have h3 : (t.bs.take n).length ≤ t.bs.length := by rw [List.length_take]; omega
  dsimp only at h1
  exact ⟨a, b, by dsimp only; omega, by dsimp only; omega, e, f, g, i, mput_dist j nm _⟩
theorem trunc_other {s : So} {nm r : ByteArray} (h : r ≠ nm) (n : Nat) : mget (s.trunc nm n).m r = mget s.m r := by
  unfold So.trunc
  split
  · rfl
  · exact mget_put_other h
theorem drop_other {s : So} {nm r : ByteArray} (h : r ≠ nm) : mget (s.drop nm).m r = mget s.m r := by
  unfold So.drop
  split <;> exact mget_del_other h
theorem crashAt_other {s : So} {nm r : ByteArray} (h : r ≠ nm) (i : Nat) (keep : List Int) : mget (crashAt s i nm keep).m r = mget s.m r := by
  unfold crashAt
  split
  · exact drop_other h
  · exact trunc_other h _
theorem loose_dist {m : Mp} (hd : mdist m) : (looseM m).Pairwise (· ≠ ·) := by
  unfold looseM namesM
  refine List.Pairwise.filter _ ?_
  refine List.pairwise_map.2 ?_
  have h1 : (keysM m).Pairwise (· ≠ ·) := by
    unfold keysM
    refine List.pairwise_map.2 (hd.imp fun {p q} hne e => hne ?_)
    rw [← nmOf_data p.1, ← nmOf_data q.1, e]
  have h2 : ((keysM m).mergeSort leB).Pairwise (· ≠ ·) := ((List.mergeSort_perm _ _).pairwise_iff (fun {a b} (h : a ≠ b) => h.symm)).2 h1
  exact h2.imp fun {a b} hne e => hne (by have := congrArg (fun x : ByteArray => x.data.toList) e; simpa [nmOf] using this)
theorem loose_has {m : Mp} {s : ByteArray} (h : s ∈ looseM m) : ∃ t, mget m s = some t := names_has (List.mem_filter.1 h).1
set_option maxRecDepth 100000 in
set_option maxHeartbeats 4000000 in
theorem objCrash (P : Nat → Prop) (w : World) (sb mb N : Nat) (s : So) (h : StR P w sb mb N s) (kA : Option Addr) (kc : Nat) (keep : List Int) (hkeep : ∀ wx, Ost sb mb w wx → Rd wx wx.heap.size 1 kA keep.length kc (keep.map (.int .i64))) (hN : N + (looseM s.m).length ≤ 1000000) :
    Calls Try.prog 19 #[.pointer (some ⟨sb, 0, none⟩), .slice kA keep.length kc] w fun e w' => e = .returned (.tuple #[]) ∧ StR P w' sb mb (N + (looseM s.m).length) (s.crash keep) ∧ Ost sb mb w w' := by
  have hkl : keep.length ≤ 9223372036854775807 := by have hk := hkeep w (Ost.refl _ _ _); have h1 := hk.le; have h2 := hk.cap; unfold maxLen at h2; omega
  go_enter Try.func19, Try.ntmps19
  go_wp2_with fail
  refine (objLoose P w sb mb N s h (by omega)).mono ?_
  rintro e w1 ⟨hb1, nA, nc, rfl, hr1, how⟩
  have h1 := h.keep hb1
  have hdist := loose_dist h.ok.di
  have hall : ∀ x ∈ looseM s.m, ∃ t, mget s.m x = some t := fun x hx => loose_has hx
  have hszs : ∀ x ∈ looseM s.m, x.size ≤ maxLen := fun x hx => by obtain ⟨D, hD⟩ := h.mp; exact hD.size (List.mem_filter.1 hx).1 h.ok.di
  obtain ⟨ns, hns⟩ : ∃ ns, looseM s.m = ns := ⟨_, rfl⟩
  have HC : Hid (s.crash keep = { crashN s ns keep ns.length with dead := false, fuse := -1, fault := -1 }) := hide (by unfold So.crash; rw [hns])
  have HLEN : Hid (N + (looseM s.m).length = N + ns.length) := hide (by rw [hns])
  rw [hns] at hr1 hdist hall hszs hN ⊢
  have hnl : ns.length ≤ 1000000 := by omega
  have HW := hide (And.intro hdist (And.intro hall hszs))
  have hsz1 : sb < w1.heap.size := h1.bx.z
  have hmz1 := h1.mlt
  have hnP := h1.nP
  have hnM := h1.nM
  have hsb0 : sb < w.heap.size := h.bx.z
  have hmb0 := h.mlt
  have HOW := hide (Ost.of (sb := sb) (mb := mb) hb1)
  clear hns hdist hall hszs h
  go_wp2_with fail
  go_loopw [11] (fun iv wr => ∃ k : Nat, iv = .int .i64 (k : Int) ∧ k ≤ ns.length ∧ StR P wr sb mb (N + k) (crashN s ns keep k) ∧ Ost sb mb w1 wr ∧ Hid (∀ j, k ≤ j → j < ns.length → mget (crashN s ns keep k).m (ns.getD j ByteArray.empty) = mget s.m (ns.getD j ByteArray.empty))) (fun iv _ => ns.length - (intOf iv).toNat)
  case atStart => exact ⟨0, rfl, Nat.zero_le _, h1, Ost.refl _ _ _, hide (fun j _ _ => rfl)⟩
  case round =>
    clear h1
    obtain ⟨k, rfl, hk, hS, hO, hsame⟩ := hrel
    by_cases hlt : k < ns.length
    · obtain ⟨nm, hnm⟩ : ∃ nm, ns.getD k ByteArray.empty = nm := ⟨_, rfl⟩
      have hnk : ns[k]? = some nm := by rw [← hnm, List.getD_eq_getElem?_getD, List.getElem?_eq_getElem hlt]; rfl
      have hmem : nm ∈ ns := List.mem_of_getElem? hnk
      obtain ⟨t, ht0⟩ := HW.out.2.1 nm hmem
      have hnms := HW.out.2.2 nm hmem
      have ht : mget (crashN s ns keep k).m nm = some t := by have := hsame.out k (Nat.le_refl _) hlt; rw [hnm] at this; rw [this]; exact ht0
      have hstep : crashN s ns keep (k + 1) = crashAt (crashN s ns keep k) k nm keep := by rw [← hnm]; rfl
      have hnext : Hid (∀ j, k + 1 ≤ j → j < ns.length → mget (crashN s ns keep (k + 1)).m (ns.getD j ByteArray.empty) = mget s.m (ns.getD j ByteArray.empty)) := hide fun j hj hjl => by
        rw [hstep, crashAt_other (fun q => by
          have h2 := (List.pairwise_iff_getElem.1 HW.out.1) k j hlt hjl (by omega)
          rw [getD_at _ _ hjl] at q
          rw [List.getElem?_eq_getElem hlt] at hnk
          injection hnk with hnk
          exact h2 (hnk.trans q.symm))]
        exact hsame.out j (by omega) hjl
      obtain ⟨sk, hsk⟩ : ∃ sk, crashN s ns keep k = sk := ⟨_, rfl⟩
      rw [hsk] at hS ht hstep
      have HST := hide hstep
      have hmbw1 : mb < w1.heap.size := hmz1
      have hr : Rd wr w1.heap.size 1 nA ns.length nc (strsV ns) := by
        refine ⟨hr1.len, hr1.le, hr1.cap, fun hn => ?_⟩
        obtain ⟨b, off, e, hb, hc⟩ := hr1.at_ hn
        refine ⟨b, off, e, hb, fun j u hu => (hO.cell hb (fun q => ?_) (fun q => ?_)).trans (hc j u hu)⟩
        · exact how sb hsb0 (by rw [e]; exact congrArg some q.symm)
        · exact how mb hmb0 (by rw [e]; exact congrArg some q.symm)
      have hKr := hkeep wr (HOW.out.trans hO)
      obtain ⟨b, off, rfl, hb, hc⟩ := hr.at_ (by omega)
      have hcell := hc k (.string nm) (by unfold strsV; rw [List.getElem?_map, hnk]; rfl)
      have hOW := HOW.out.trans hO
      clear hc hr hnk hmem hnm hstep hsk ht0
      by_cases hlen : keep.length ≤ k
      · have HF := hide (HST.out.trans (if_pos (Or.inl hlen)))
        go_wp2_with fail
        refine (objDrop P wr sb mb (N + k) sk hS nm hnms t ht).mono ?_
        rintro e w4 ⟨rfl, h4, O4⟩
        clear hcell
        go_wp2_with fail
        go_roundw
        case rel => exact ⟨k + 1, by go_num, hlt, (by rw [HF.out]; exact h4.mono (Nat.le_succ _)), hO.trans O4, hnext⟩
        case measure => simp [intOf]; omega
      · have hlen3 : k < keep.length := by omega
        obtain ⟨kk, hkk⟩ : ∃ x, keep.getD k 0 = x := ⟨_, rfl⟩
        have hke : keep[k]? = some kk := by rw [← hkk, List.getD_eq_getElem?_getD, List.getElem?_eq_getElem hlen3]; rfl
        obtain ⟨kb, koff, rfl, hkb, hkc⟩ := hKr.at_ (by omega)
        have hkcell := hkc k (.int .i64 kk) (by rw [List.getElem?_map, hke]; rfl)
        clear hkc hke hkeep hKr
        have tk : decide (keep.length ≤ k) = false := decide_eq_false hlen
        by_cases hneg : kk < 0
        · have HF := hide (HST.out.trans (if_pos (Or.inr (by rw [hkk]; exact hneg))))
          clear hkk
          go_wp2_with fail
          refine (objDrop P wr sb mb (N + k) sk hS nm hnms t ht).mono ?_
          rintro e w4 ⟨rfl, h4, O4⟩
          clear hcell
          go_wp2_with fail
          go_roundw
          case rel => exact ⟨k + 1, by go_num, hlt, (by rw [HF.out]; exact h4.mono (Nat.le_succ _)), hO.trans O4, hnext⟩
          case measure => simp [intOf]; omega
        · have HF : Hid (crashN s ns keep (k + 1) = sk.trunc nm kk.toNat) := hide (by rw [HST.out]; unfold crashAt; rw [if_neg (by rw [hkk]; omega), hkk])
          clear hkk
          obtain ⟨D, hD⟩ := hS.mp
          obtain ⟨A, c, _, hlk, hrow⟩ := hD.some_ ht hnms
          have c2 := hS.bx.cell 2 _ rfl
          have HT := hide ht
          have hbA := (Below.refl wr.heap.size wr).alloc (Nat.le_refl _) (.cells #[.slice A t.bs.length c, .bool t.loose] 56)
          have y := boxN_new wr #[.slice A t.bs.length c, .bool t.loose] 56
          clear hD hlen
          have tneg : decide (kk < 0) = false := decide_eq_false hneg
          go_upto_region 6 with fail
          have hO2 := hO.trans (Ost.of (sb := sb) (mb := mb) hbA)
          have hS2 := hS.keep hbA
          have hrow2 := hrow.low hbA
          have hyb0 : wr.heap.size ≠ sb ∧ wr.heap.size ≠ mb := ⟨by have := hO.size; omega, by have := hO.size; omega⟩
          have hkcell2 := (hbA.cell (p := ⟨kb, koff + k, none⟩) hkb).trans hkcell
          generalize wr.alloc (.cells #[.slice A t.bs.length c, .bool t.loose] 56) = w2 at *
          generalize wr.heap.size = yb at *
          clear hS hO hlk hcell hb c2 hbA hkcell hkb hrow hOW
          have y0 := y.cell 0 _ rfl
          go_quiet (fail)
          have hb3 : Below w2.heap.size w2 (w2.drewN nq) := below_dN (Below.refl _ _) _
          have hS3 := hS2.keep hb3
          have hrow3 := hrow2.low hb3
          have y3 := y.keep hb3 y.z
          have hO3 := hO2.trans (Ost.of (sb := sb) (mb := mb) hb3)
          generalize w2.drewN nq = w3 at *
          obtain ⟨mn, hmn⟩ : ∃ x, (t.bs.take kk.toNat).length = x := ⟨_, rfl⟩
          have hmin : min kk (t.bs.length : Int) = (mn : Int) := by rw [← hmn, List.length_take]; omega
          have hmle : mn ≤ t.bs.length := by rw [← hmn, List.length_take]; omega
          rw [hmin]
          have hcl := hrow3.rd.le
          have hcc := hrow3.rd.cap
          have hdl := mget_len hS3.ok.di HT.out
          have hu := hS3.ok.us
          have huq := hS3.ok.uq
          have hq1 := hS3.ok.q1
          have w52 : wrap64 ((t.bs.length : Int) - (mn : Int)) = (t.bs.length : Int) - (mn : Int) := IntWalk.wrap64_in _ ⟨by omega, by omega⟩
          have w53 : wrap64 (sk.used - ((t.bs.length : Int) - (mn : Int))) = sk.used - ((t.bs.length : Int) - (mn : Int)) := IntWalk.wrap64_in _ ⟨by omega, by omega⟩
          have c1 := hS3.bx.cell 1 _ rfl
          have f1 := hS3.bx.free 1 (by simp)
          have y03 := y3.cell 0 _ rfl
          have HMN := hide hmn
          obtain ⟨D3, hD3⟩ := hS3.mp
          have hne := hS3.ne
          clear hS2 hrow2 y0 hb3 y hO2 hkcell2 hmin hdl hu huq hq1 hmn hneg tneg
          go_upto_region 7 with fail
          go_region
          have O4 := ((Oth.refl sb w3).set 1 (.int .i64 (sk.used - ((t.bs.length : Int) - (mn : Int))))).drew
          have x4 := (hS3.bx.set (j := 1) (.int .i64 (sk.used - ((t.bs.length : Int) - (mn : Int)))) rfl).oth (Oth.refl (sb + 1) _).drew (by omega)
          have hD4 := hD3.move O4.size (O4.block mb hD3.lt (fun q => hne q.symm)) (fun p hp hl => O4.cell hl (fun q => hnP (by rw [← q]; exact hp)))
          have y4 := y3.oth O4 hyb0.1
          have hrow4 := hrow3.keep O4.size (fun p hp hl => O4.cell hl (fun q => hnP (by rw [← q]; exact hp)))
          have hO4 := hO3.trans (Ost.ofOth (mb := mb) O4)
          have HK := hide hS3.ok
          generalize (w3.setCell ⟨sb, 1, none⟩ (.int .i64 (sk.used - ((t.bs.length : Int) - (mn : Int))))).drew = w4 at *
          clear hS3 hrow3 hO3 O4 hD3 y3 c1 f1 y03 w52 w53
          go_upto_region 8 with fail
          have hbd := (Below.refl w4.heap.size w4).drew
          have x4d := x4.keep hbd x4.z
          have k2 := x4d.cell 2 _ rfl
          have y4d := y4.keep hbd y4.z
          have y0 := y4d.cell 0 _ rfl
          have hrowP := (hrow4.low hbd).pre kk.toNat
          obtain ⟨w5, D5, hrun, hD5, hg5⟩ := (hD4.keep hbd).put (lo := false) (s := nm) (by omega) hnms hrowP
          rw [HMN.out] at hrun
          have hcut := run_cut_max tyBytes A t.bs.length c .i64 (mn : Int) mn rfl (by omega)
          have hcut2 := cut_max tyBytes A t.bs.length c .i64 (mn : Int) mn rfl (by omega)
          have hyb5 : w5.heap[yb]? = w4.drew.heap[yb]? := hg5.block yb y4d.z (by intro q; injection q with q; exact hyb0.2 q)
          have hsb5 : w5.heap[sb]? = w4.drew.heap[sb]? := hg5.block sb x4d.z (by intro q; injection q with q; exact hne q)
          have z0 := (World.cell?_of_block (w := w4.drew) (a := ⟨yb, 0, none⟩) hyb5).trans y0
          have j2 := (World.cell?_of_block (w := w4.drew) (a := ⟨sb, 2, none⟩) hsb5).trans k2
          have x5 : BoxN w5 sb [.int .i64 sk.quota, .int .i64 (sk.used - ((t.bs.length : Int) - (mn : Int))), .map (some mb), .string sk.cell, .int .i64 sk.fuse, .int .i64 sk.fault, .bool sk.dead] := ⟨fun j v hj => (World.cell?_of_block (w := w4.drew) (a := ⟨sb, j, none⟩) hsb5).trans (x4d.cell j v hj), fun j hj => (World.frozen?_of_block (w := w4.drew) (a := ⟨sb, j, none⟩) hsb5).trans (x4d.free j hj), Nat.lt_of_lt_of_le x4d.z hg5.size⟩
          have HOK := hide (HK.out.trunc HT.out kk.toNat)
          rw [So.trunc_some HT.out, HMN.out] at HF HOK
          have HS5 : Hid (StR P w5 sb mb (N + (k + 1)) { sk with m := mput sk.m nm ⟨t.bs.take kk.toNat, false⟩, used := sk.used - ((t.bs.length : Int) - (mn : Int)) }) := hide ⟨x5, ⟨D5, hD5⟩, hnP, hne, HOK.out⟩
          have HO5 := hide (hO4.trans ((Ost.of (sb := sb) (mb := mb) hbd).trans (Ost.map hg5)))
          clear x4 x4d hD4 y4 y4d hrow4 hrowP hO4 hyb5 hsb5 x5 hD5 hg5 hbd
          refine wp_region_held_drew (S := fun w' => w'.cell? ⟨sb, 2, none⟩ = some (.map (some mb)) ∧ w'.cell? ⟨yb, 0, none⟩ = some (.slice A t.bs.length c)) (by kernel_rfl) ?_ (fun hHeld => ?_)
          · exact ⟨k2, y0⟩
          refine wpAnyH_take (i := 0) (v := ?_) rfl (by kernel_rfl) (by kernel_rfl) (by kernel_rfl) (fun _ _ _ h => h) (Or.inl ⟨by rfl, ?_⟩) hHeld ?_
          rotate_left 1
          · (intro w' hSw; go_simp; first | done | with_reducible rfl)
          (try simp only [Act.put, List.setIfInBounds_toArray, List.set_cons_zero, List.set_cons_succ])
          refine wpAnyH_take (i := 1) (v := ?_) rfl (by kernel_rfl) (by kernel_rfl) (by kernel_rfl) (fun _ _ _ h => h) (Or.inl ⟨by rfl, ?_⟩) hHeld ?_
          rotate_left 1
          · (intro w' hSw; go_simp; first | done | with_reducible rfl)
          (try simp only [Act.put, List.setIfInBounds_toArray, List.set_cons_zero, List.set_cons_succ])
          refine wpAnyH_take (i := 2) (v := ?_) rfl (by kernel_rfl) (by kernel_rfl) (by kernel_rfl) (fun _ _ _ h => h) (Or.inl ⟨by rfl, ?_⟩) hHeld ?_
          rotate_left 1
          · (intro w' hSw; go_simp; first | done | with_reducible rfl)
          (try simp only [Act.put, List.setIfInBounds_toArray, List.set_cons_zero, List.set_cons_succ])
          refine wpAnyH_take (i := 3) (v := ?_) rfl (by kernel_rfl) (by kernel_rfl) (by kernel_rfl) (fun _ _ _ h => h) (Or.inl ⟨by rfl, ?_⟩) hHeld ?_
          rotate_left 1
          · (intro w' hSw; obtain ⟨q2, r0⟩ := hSw; go_simp; first | done | with_reducible rfl)
          (try simp only [Act.put, List.setIfInBounds_toArray, List.set_cons_zero, List.set_cons_succ])
          refine wpAnyH_take (i := 4) (v := ?_) rfl (by kernel_rfl) (by kernel_rfl) (by kernel_rfl) (fun _ _ _ h => h) (Or.inl ⟨by rfl, ?_⟩) hHeld ?_
          rotate_left 1
          · (intro w' hSw; go_simp; first | done | with_reducible rfl)
          (try simp only [Act.put, List.setIfInBounds_toArray, List.set_cons_zero, List.set_cons_succ])
          refine wpAnyH_take (i := 5) (v := ?_) rfl (by kernel_rfl) (by kernel_rfl) (by kernel_rfl) (fun _ _ _ h => h) (Or.inl ⟨by rfl, ?_⟩) hHeld ?_
          rotate_left 1
          · (intro w' hSw; go_simp; first | done | with_reducible rfl)
          (try simp only [Act.put, List.setIfInBounds_toArray, List.set_cons_zero, List.set_cons_succ])
          refine wpAnyH_take (i := 6) (v := ?_) rfl (by kernel_rfl) (by kernel_rfl) (by kernel_rfl) (fun _ _ _ h => h) (Or.inl ⟨by rfl, ?_⟩) hHeld ?_
          rotate_left 1
          · (intro w' hSw; obtain ⟨q2, r0⟩ := hSw; go_simp; first | done | with_reducible rfl)
          (try simp only [Act.put, List.setIfInBounds_toArray, List.set_cons_zero, List.set_cons_succ])
          refine wpAnyH_take (i := 7) (v := ?_) rfl (by kernel_rfl) (by kernel_rfl) (by kernel_rfl) (fun _ _ _ h => h) (Or.inl ⟨by rfl, ?_⟩) hHeld ?_
          rotate_left 1
          · (intro w' hSw; go_simp; first | done | with_reducible rfl)
          (try simp only [Act.put, List.setIfInBounds_toArray, List.set_cons_zero, List.set_cons_succ])
          refine wpAnyH_take (i := 8) (v := ?_) rfl (by kernel_rfl) (by kernel_rfl) (by kernel_rfl) (fun _ _ _ h => h) (Or.inl ⟨by rfl, ?_⟩) hHeld ?_
          rotate_left 1
          · (intro w' hSw; go_simp; first | done | with_reducible rfl)
          (try simp only [Act.put, List.setIfInBounds_toArray, List.set_cons_zero, List.set_cons_succ])
          refine wpAnyH_take (i := 9) (v := ?_) rfl (by kernel_rfl) (by kernel_rfl) (by kernel_rfl) (fun _ _ _ h => h) (Or.inl ⟨by rfl, ?_⟩) hHeld ?_
          rotate_left 1
          · (intro w' hSw; go_simp; first | done | with_reducible rfl)
          (try simp only [Act.put, List.setIfInBounds_toArray, List.set_cons_zero, List.set_cons_succ])
          refine wpAnyH_take (i := 10) (v := ?_) rfl (by kernel_rfl) (by kernel_rfl) (by kernel_rfl) (fun _ _ _ h => h) (Or.inl ⟨by rfl, ?_⟩) hHeld ?_
          rotate_left 1
          · (intro w' hSw; go_simp; first | done | with_reducible rfl)
          (try simp only [Act.put, List.setIfInBounds_toArray, List.set_cons_zero, List.set_cons_succ])
          refine wpAnyH_ready (rs := [11]) (by kernel_rfl) (by simp) ?_
          refine AllReadyH.cons rfl (fun K hK => ?_) AllReadyH.nil
          go_simp
          refine hK.out _ _ ⟨j2, z0⟩ (fun hHeld => ?_)
          clear hK K
          (try simp only [Act.put, List.setIfInBounds_toArray, List.set_cons_zero, List.set_cons_succ])
          refine wpAnyH_done (by kernel_rfl) ?_ _
          go_wp2_with fail
          go_roundw
          case rel => exact ⟨k + 1, by go_num, hlt, (by rw [HF.out]; exact HS5.out), HO5.out, hnext⟩
          case measure => simp [intOf]; omega
    · obtain rfl : k = ns.length := by omega
      have hOW := HOW.out.trans hO
      obtain ⟨sk, hsk⟩ : ∃ x, crashN s ns keep ns.length = x := ⟨_, rfl⟩
      rw [hsk] at hS HC
      have c4 := hS.bx.cell 4 _ rfl
      have c5 := hS.bx.cell 5 _ rfl
      have c6 := hS.bx.cell 6 _ rfl
      have f4 := hS.bx.free 4 (by simp)
      have f5 := hS.bx.free 5 (by simp)
      have f6 := hS.bx.free 6 (by simp)
      have HSB := hide hS
      clear hsame hkeep hsk hS
      go_wp2_with fail
      go_end0
      obtain ⟨a, b, c, d, e, f, g, i, j⟩ := HSB.out.ok
      rw [HC.out, HLEN.out]
      have ho := (((Oth.refl sb wr).set 6 (.bool false)).set 4 (.int .i64 (-1))).set 5 (.int .i64 (-1))
      exact ⟨rfl, HSB.out.box (s2 := { sk with dead := false, fuse := -1, fault := -1 }) ho rfl ⟨a, b, c, d, (by show (-1 : Int) ≤ -1; omega), (by show (-1 : Int) ≤ 9223372036854775807; omega), (by show (-1 : Int) ≤ -1; omega), (by show (-1 : Int) ≤ 9223372036854775807; omega), j⟩ (((HSB.out.bx.set (j := 6) (.bool false) rfl).set (j := 4) (.int .i64 (-1)) rfl).set (j := 5) (.int .i64 (-1)) rfl), hOW.trans (.ofOth ho)⟩
end Go.Proofs.Ytbgfmcmaklobaaa
