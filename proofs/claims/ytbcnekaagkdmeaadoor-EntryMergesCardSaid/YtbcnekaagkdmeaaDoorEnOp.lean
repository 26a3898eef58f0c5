/- THE WALK of entry.Open. No statement of the seat is proved here; no condition but the table of sums and the size. -/
import Derived.Test.YtbcnekaagkdmeaaDoorEnE
namespace Go.Proofs.YtbcnekaagkdmeaaDoor
open Go.RowKit

/-- a list of entries of one's own -/
structure OwnE (w : World) (B : Nat) (A : Option Addr) (c : Nat) (l : List El) : Prop where
  own : w.ownsRow B 36 6 (.slice A l.length c) l.length (elsV l)
  ins : ∀ x ∈ l, w.ownsRow B 53 10 (.slice x.A x.p.stats.length x.c) x.p.stats.length (stsV x.p.stats)
section
variable {w w' w8 : World} {B b c : Nat} {A : Option Addr} {l : List El}
theorem OwnE.nil (w : World) (B : Nat) : OwnE w B none 0 [] := ⟨World.ownsRow_nil _ _ _ _, by simp⟩
theorem OwnE.oth (h : OwnE w B A c l) (ho : Oth b w w') (hb : b < B) : OwnE w' B A c l := ⟨own_oth h.own ho hb, fun x hx => own_oth (h.ins x hx) ho hb⟩
theorem OwnE.keep (h : OwnE w B A c l) (hb : Below w.heap.size w w') : OwnE w' B A c l := ⟨own_below h.own hb, fun x hx => own_below (h.ins x hx) hb⟩
theorem OwnE.base (h : OwnE w B A c l) {B2 : Nat} (hb : B2 ≤ B) : OwnE w B2 A c l := ⟨own_base h.own hb, fun x hx => own_base (h.ins x hx) hb⟩
theorem OwnE.rd (h : OwnE w B A c l) : EnR w w.heap.size A c l := ⟨rd_own h.own, fun x hx => rd_own (h.ins x hx)⟩
theorem OwnE.snoc (h : OwnE w B A c l) {x : El} (hx : w.ownsRow B 53 10 (.slice x.A x.p.stats.length x.c) x.p.stats.length (stsV x.p.stats)) {v : Value} (hown : w8.ownsRow B 36 6 v (l.length + 1) (elsV l ++ elV x)) (hg : w.grownBy w8 (Value.slice A l.length c).ownBlock) :
    ∃ g cap, v = .slice (some ⟨g, 0, none⟩) (l ++ [x]).length cap ∧ OwnE w8 B (some ⟨g, 0, none⟩) cap (l ++ [x]) := by
  obtain ⟨g, cap, rfl, _, _⟩ := hown.form (by omega)
  have e1 : (l ++ [x]).length = l.length + 1 := by simp
  have e2 : elsV (l ++ [x]) = elsV l ++ elV x := by simp [elsV]
  refine ⟨g, cap, by rw [e1], by rw [e1, e2]; exact hown, fun y hy => ?_⟩
  rcases List.mem_append.1 hy with hy | hy
  · exact own_grown (h.ins y hy) h.own hg (by decide)
  · rw [List.mem_singleton.1 hy]
    exact own_grown hx h.own hg (by decide)
end
/-- within Open -/
structure GO (w0 : World) (br : Nat) (A : Option Addr) (c : Nat) (l : List UInt8) (e : Bool) (lA : Option Addr) (lc : Nat) (ls : List El) (wr : World) : Prop where
  rd : RdrB wr br (fun k => k < br) A c l e
  own : OwnE wr (br + 1) lA lc ls
  bel : Below w0.heap.size w0 wr
  o1 : w0.heap.size ≤ br
section
variable {w0 wr w7 w8 : World} {br c lc c2 : Nat} {e e2 : Bool} {A A2 lA : Option Addr} {l l2 : List UInt8} {ls : List El}
theorem GO.go (h : GO w0 br A c l e lA lc ls wr) (hr : RdrB w7 br (fun k => k < br) A2 c2 l2 e2) (ho : Oth br wr w7) : GO w0 br A2 c2 l2 e2 lA lc ls w7 :=
  ⟨hr, h.own.oth ho (Nat.lt_succ_self _), h.bel.trans ((ho.below (Nat.le_of_lt h.rd.z)).mono h.o1), h.o1⟩
theorem GO.drew (h : GO w0 br A c l e lA lc ls wr) : GO w0 br A c l e lA lc ls wr.drew := h.go h.rd.drew (Oth.refl br wr).drew
theorem GO.why (h : GO w0 br A c l e lA lc ls wr) (e2 : Bool) : GO w0 br A c l e2 lA lc ls (wr.setCell ⟨br, 1, none⟩ (.bool e2)) := h.go (h.rd.set1 e2) ((Oth.refl br wr).set 1 _)
theorem GO.keep (h : GO w0 br A c l e lA lc ls wr) (hb : Below wr.heap.size wr w7) : GO w0 br A c l e lA lc ls w7 := h.go (h.rd.keep hb) (.of hb)
theorem GO.snoc (h : GO w0 br A c l e lA lc ls wr) {x : El} (hx : wr.ownsRow (br + 1) 53 10 (.slice x.A x.p.stats.length x.c) x.p.stats.length (stsV x.p.stats)) {v : Value} (hown : w8.ownsRow (br + 1) 36 6 v (ls.length + 1) (elsV ls ++ elV x)) (hg : wr.grownBy w8 (Value.slice lA ls.length lc).ownBlock) :
    ∃ g cap, v = .slice (some ⟨g, 0, none⟩) (ls ++ [x]).length cap ∧ GO w0 br A c l e (some ⟨g, 0, none⟩) cap (ls ++ [x]) w8 := by
  obtain ⟨g, cap, hv, hO⟩ := h.own.snoc hx hown hg
  have hz := h.rd.z
  have h1 := h.o1
  have hb8 : Below (br + 1) wr w8 := below_app (Below.refl _ _) (Nat.le_refl _) h.own.own hg (by omega)
  exact ⟨g, cap, hv, h.rd.keepB hb8 (Nat.lt_succ_self _) (fun k hk _ => by have : k < br := hk; omega), hO, h.bel.trans (hb8.mono (by omega)), h1⟩
end
def OpEndE (w : World) (b : List UInt8) (e : Ending) (w' : World) : Prop :=
  Below w.heap.size w w' ∧ ∃ lA lc, ∃ ls : List El, e = .returned (.tuple #[.slice lA ls.length lc, .int .i64 ((opE b).1 : Int)]) ∧ ls.map El.p = (opE b).2 ∧ ls.length ≤ 64 ∧ OwnE w' w.heap.size lA lc ls
theorem opEndE_bad {w w' : World} {b : List UInt8} {er : Nat} (h : opE b = (er, [])) (hb : Below w.heap.size w w') : OpEndE w b (.returned (.tuple #[.slice none 0 0, .int .i64 (er : Int)])) w' :=
  ⟨hb, none, 0, [], by rw [h]; rfl, by rw [h]; rfl, by simp, OwnE.nil _ _⟩
theorem magic_ne {t : List UInt8} (h : t.take 3 ≠ mf1) : ((⟨(t.take 3).toArray⟩ : ByteArray).toList == [77, 70, 49]) = false := by
  rw [ByteArray.toList_eq, beq_eq_false_iff_ne]
  intro q
  exact h (by simpa [mf1] using q)
def GOR (w0 : World) (br : Nat) (Q : List En × List UInt8 × Bool) (nv lv : Value) (wr : World) : Prop :=
  ∃ (m : Nat) (A : Option Addr) (c : Nat) (l : List UInt8) (e : Bool) (lA : Option Addr) (lc : Nat) (ls : List El), nv = .int .i64 (m : Int) ∧ lv = .slice lA ls.length lc ∧ m + ls.length ≤ 64 ∧ Hid (rents m l e (ls.map El.p) = Q) ∧ GO w0 br A c l e lA lc ls wr
set_option maxRecDepth 100000 in
set_option maxHeartbeats 4000000 in
theorem entOpen (w : World) (A : Option Addr) (c : Nat) (l : List UInt8) (hr : Rd w w.heap.size 1 A l.length c (bytesV l)) (ht : Table w) (hl : l.length ≤ 1000000) :
    Calls Tryd.prog 15 #[.slice A l.length c] w (OpEndE w l) := by
  have HT := hide ht
  have hpos := ht.pos
  clear ht
  go_enter Tryd.func15, Tryd.ntmps15
  go_wp2_with fail
  refine (crcOpen w _ c A l hr HT.out hl).mono ?_
  intro e w1 he
  obtain ⟨hb1, A1, c1, rfl, hr1⟩ := retOpen_one he
  have HRL := hide hr
  clear he hr
  cases ho : open_ l with
  | none =>
    have HE := hide (opE_none ho)
    simp only [Option.getD_none, Option.isSome_none, List.length_nil]
    clear ho hr1
    go_wp2_with fail
    go_ret2
    exact opEndE_bad HE.out hb1
  | some body =>
    rw [ho] at hr1
    simp only [Option.getD_some, Option.isSome_some] at hr1 ⊢
    have HO := hide ho
    have hbl : Hid (body.length ≤ 1000000) := hide (by
      unfold open_ at ho
      split at ho
      · injection ho with ho
        rw [← ho, List.length_take]
        omega
      · cases ho)
    have hb62 : body.length ≤ 9223372036854775807 := by have := hbl.out; omega
    clear ho
    by_cases h3 : body.length < 3
    · have t1 : decide ((body.length : Int) < 3) = true := decide_eq_true (by omega)
      have HE := hide (opE_magic HO.out (.inl h3))
      clear hr1
      go_wp2_with fail
      go_ret2
      exact opEndE_bad HE.out hb1
    have t1 : decide ((body.length : Int) < 3) = false := decide_eq_false (by omega)
    have hcap := hr1.le
    have u1 := fun k W => run_cut_hi (P := Tryd.prog) tyBytes A1 body.length c1 k (3 : Int) 3 rfl (by omega) W
    have u2 := fun k W => cut_hi (P := Tryd.prog) tyBytes A1 body.length c1 k (3 : Int) 3 rfl (by omega) W
    have hpre : Rd w1 w1.heap.size 1 A1 3 c1 (bytesV (body.take 3)) := by
      have := hr1.pre (hi := 3) (by omega)
      simpa [bytesV, List.map_take] using this
    have hstr := run_str (P := Tryd.prog) w1 Tryd.underlying25 Tryd.underlying5 Tryd.underlying9 hpre
    have H3 := hide h3
    clear hpre
    by_cases hq : body.take 3 ≠ mf1
    · have HE := hide (opE_magic HO.out (.inr hq))
      have hne := magic_ne hq
      generalize (⟨(body.take 3).toArray⟩ : ByteArray) = pre at *
      clear hr1 hq h3 hcap
      go_wp2_with fail
      go_ret2
      exact opEndE_bad HE.out hb1
    have hq : body.take 3 = mf1 := Decidable.of_not_not hq
    have HM : Hid (¬ (body.length < 3 ∨ body.take 3 ≠ mf1)) := hide (by rintro (q | q); exact H3.out q; exact q hq)
    have hpe : (⟨(body.take 3).toArray⟩ : ByteArray) = ⟨#[77, 70, 49]⟩ := by rw [hq]; rfl
    rw [hpe] at hstr
    obtain ⟨A2, l2, hl2, s1, s2, hr2⟩ := rd_lo hr1 (lo := 3) (by omega)
    have s1 : ∀ k W, (Instr.sliceAt 25 (.slice A1 body.length c1) (some (.int k (3 : Int))) none none).run Tryd.prog W = .ok (.slice A2 l2.length (c1 - 3)) W := s1
    have s2 : ∀ k W, (Instr.slice 25 (.slice A1 body.length c1) (some (.int k (3 : Int))) none none).run Tryd.prog W = .ok (.slice A2 l2.length (c1 - 3)) W := s2
    have HL2 := hide hl2
    clear hr1 hq hpe h3 hcap hl2 hb62
    go_wp2_with fail
    have R2 := rdrB_new w1 (P := fun k => k < w1.heap.size) hr2 67 (fun k hk => hk) (fun q => Nat.lt_irrefl _ q)
    have hb2 := (Below.refl w1.heap.size w1).alloc (Nat.le_refl _) (.cells #[.slice A2 l2.length (c1 - 3), .bool false] 67)
    have hB2 := below_call hb1 hb1.size hb2
    have zb := hb1.size
    generalize w1.alloc (.cells #[.slice A2 l2.length (c1 - 3), .bool false] 67) = w2 at *
    generalize w1.heap.size = br at *
    have G2 : GO w br A2 (c1 - 3) l2 false none 0 [] w2 := ⟨R2, OwnE.nil _ _, hB2, zb⟩
    clear R2 hb2 hr2 hB2 u1 u2 s1 s2 hstr hb1
    refine (entSmall w2 br _ A2 (c1 - 3) l2 false G2.rd 64 (by decide)).mono ?_
    rintro e w4 ⟨rfl, ⟨A4, c4, h4⟩, ho4⟩
    have hlt := rsm_le 64 l2 false
    obtain ⟨N, l4, b4, hn⟩ : ∃ n l' b', rsm 64 l2 false = (n, l', b') := ⟨_, _, _, rfl⟩
    rw [hn] at h4 hlt ⊢
    dsimp only at h4 hlt ⊢
    have G4 := G2.go h4 ho4
    obtain ⟨Q, hQ⟩ : ∃ Q, rents N l4 b4 [] = Q := ⟨_, rfl⟩
    have HQ := hide hQ
    have HE : Hid (ents body = Q) := hide (by unfold ents; rw [← HL2.out, hn]; exact hQ)
    clear hn hQ h4 ho4 G2
    go_wp2_with fail
    go_loopw [8, 7] (GOR w br Q) (fun iv _ _ => (intOf iv).toNat)
    case atStart => exact ⟨N, A4, c4, l4, b4, none, 0, [], rfl, rfl, by simpa using hlt, HQ, G4⟩
    case round =>
      clear G4 hlt
      obtain ⟨m, A', c', l', e', lA, lc, ls, rfl, rfl, hm64, hrd, G⟩ := hrel
      have k1 := G.rd.c1
      have HG := hide G
      cases e' with
      | true =>
        have hq := rents_end (n := m) (l := l') (bad := true) (acc := ls.map El.p) (.inr rfl)
        rw [hrd.out] at hq
        have HRES := hide (opE_bad HO.out HM.out (by rw [HE.out, hq]))
        clear hq hrd G
        by_cases hm : m = 0
        · have t2 : decide ((0 : Int) < (m : Int)) = false := decide_eq_false (by omega)
          have t3 : ¬ 0 < m := by omega
          go_wp2_with fail
          go_ret2
          exact opEndE_bad HRES.out HG.out.bel
        · have t2 : decide ((0 : Int) < (m : Int)) = true := decide_eq_true (by omega)
          go_wp2_with fail
          go_ret2
          exact opEndE_bad HRES.out HG.out.bel
      | false =>
        by_cases hm : m = 0
        · have hq := rents_end (n := m) (l := l') (bad := false) (acc := ls.map El.p) (.inl hm)
          rw [hrd.out] at hq
          have HE2 : Hid (ents body = (ls.map El.p, l', false)) := hide (HE.out.trans hq)
          have HB : Hid (¬ (ents body).2.2 = true) := hide (by rw [HE2.out]; simp)
          have t2 : decide ((0 : Int) < (m : Int)) = false := decide_eq_false (by omega)
          have t3 : ¬ 0 < m := by omega
          have hls : ls.length ≤ 64 := by omega
          clear hq hrd G hm64
          go_wp2_with fail
          refine (entWrite wr lA lc ls HG.out.own.rd (HT.out.below HG.out.bel hpos)).mono ?_
          rintro e w5 ⟨hb5, (⟨her, v5, rfl, hown5⟩ | ⟨her, rfl⟩)⟩
          · obtain ⟨A5, c5, rfl⟩ := own_slice hown5
            have hr5 := rd_own hown5
            have hbl5 := HG.out.bel.trans (hb5.mono HG.out.bel.size)
            have hra := (HRL.out.below hbl5).more hbl5.size
            have HG5 := hide (HG.out.own.keep hb5)
            have HER := hide her
            clear her hown5 k1
            go_wp2_with fail
            refine (equalBytes w5 w5.heap.size _ c5 _ c A5 A _ l hr5 hra (Nat.le_refl _)).mono ?_
            rintro e w6 ⟨rfl, hb6⟩
            have hb66 := below_call hbl5 hbl5.size hb6
            cases hq : (wrES (ls.map El.p) == l) with
            | true =>
              have HRES := hide (opE_good HO.out HM.out HB.out (by rw [HE2.out]; exact ⟨HER.out, beq_iff_eq.1 hq⟩))
              clear hq
              go_wp2_with fail
              go_ret2
              refine ⟨hb66, lA, lc, ls, by rw [HRES.out]; rfl, by rw [HRES.out, HE2.out], hls, (HG5.out.keep hb6).base ?_⟩
              have := HG.out.o1
              omega
            | false =>
              have HRES := hide (opE_other HO.out HM.out HB.out (by rw [HE2.out]; rintro ⟨_, q⟩; have q : wrES (ls.map El.p) = l := q; rw [q, beq_self_eq_true] at hq; cases hq))
              clear hq
              go_wp2_with fail
              go_ret2
              exact opEndE_bad HRES.out hb66
          · have HRES := hide (opE_other HO.out HM.out HB.out (by rw [HE2.out]; rintro ⟨q, _⟩; exact her q))
            have t59 : ((errE (ls.map El.p) : Int) != 0) = true := by rw [bne_iff_ne]; omega
            have hbl5 := HG.out.bel.trans (hb5.mono HG.out.bel.size)
            generalize errE (ls.map El.p) = er at *
            clear her k1
            go_wp2_with fail
            go_ret2
            exact opEndE_bad HRES.out hbl5
        · have hq := hrd.out
          rw [show m = (m - 1) + 1 by omega, rents_on] at hq
          have HQ2 := hide hq
          have t2 : decide ((0 : Int) < (m : Int)) = true := decide_eq_true (by omega)
          have HM0 : Hid (0 < m) := hide (by omega)
          clear hq hrd
          go_wp2_with fail
          refine (entREntry wr br _ A' c' l' false G.rd).mono ?_
          rintro e w5 ⟨F, fc, rfl, h8, hown5, ⟨A5, c5, rd5⟩, ho5⟩
          obtain ⟨T, hT⟩ : ∃ T, rentry l' false = T := ⟨_, rfl⟩
          obtain ⟨x5, l5, e5⟩ := T
          rw [hT] at rd5 hown5 h8 ⊢
          dsimp only [elA] at rd5 hown5 h8 ⊢
          have HQ3 : Hid (rents (m - 1) l5 e5 ((ls ++ [(⟨x5, F, fc⟩ : El)]).map El.p) = Q) := hide (by have q := HQ2.out; rw [hT] at q; rw [List.map_append]; exact q)
          have G5 := G.go rd5 ho5
          have hz5 : br + 1 ≤ wr.heap.size := G.rd.z
          have hx5 := own_base hown5 hz5
          have hbL := (Below.refl w5.heap.size w5).alloc (Nat.le_refl _) (.cells (elA x5 F fc) 36)
          have G6 := G5.keep hbL
          have hx6 := own_below hx5 hbL
          have hrL : Rd (w5.alloc (.cells (elA x5 F fc) 36)) (w5.heap.size + 1) 6 (some ⟨w5.heap.size, 0, none⟩) 1 1 (elV ⟨x5, F, fc⟩) := Rd.lit (n := 1) (sz := 6) w5 36 (elA x5 F fc) rfl (by unfold maxLen; omega)
          have hz6 : br + 1 ≤ (w5.alloc (.cells (elA x5 F fc) 36)).heap.size := by have := ho5.size; have := hbL.size; omega
          have hom := G6.own.own
          dsimp only [elA] at hrL hz6 G6 hx6 hom
          clear hT hbL rd5 ho5 G5 hx5 hown5 HQ2 k1 HG G
          go_wp2_with (at_builtin; refine wpList_app _ tyEls rfl (.tmp 44) (.tmp 47) rfl (br + 1) _ ls.length (elsV ls) rfl hom (w5.heap.size + 1) _ 1 1 (elV ⟨x5, F, fc⟩) rfl hrL (elV_one _) (by omega) hz6 ?_; intro v8 w8 hown8 hg8 _)
          obtain ⟨g, cap, rfl, G8⟩ := G6.snoc (x := ⟨x5, F, fc⟩) hx6 hown8 hg8
          clear hown8 hg8 G6 hx6 hom hrL
          go_wp2_with fail
          go_roundw
          case rel => exact ⟨m - 1, A5, c5, l5, e5, _, cap, ls ++ [⟨x5, F, fc⟩], by have := HM0.out; congr 1; omega, rfl, by have := HM0.out; rw [List.length_append, List.length_singleton]; omega, HQ3, G8⟩
          case measure => have := HM0.out; simp [intOf]; omega
end Go.Proofs.YtbcnekaagkdmeaaDoor
