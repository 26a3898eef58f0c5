/- THE WALK of reading a schema: the document's. No statement of the seat is proved here; no condition. -/
import Derived.Test.YtlccpchlclpnaaaRefT
import Derived.Test.YtlccpchlclpnaaaSchC
namespace Go.Proofs.Ytlccpchlclpnaaa
open Go.RowKit

set_option maxRecDepth 100000 in
set_option maxHeartbeats 3000000 in
theorem refSchema (w : World) (b : Nat) (A : Option Addr) (c : Nat) (l : List UInt8) (er : Nat) (h : RdrA w b A c l er) :
    Calls Try.prog 30 #[.pointer (some ⟨b, 0, none⟩)] w (SchEnd w b (rdS l er)) := by
  have hb := h.z
  go_enter Try.func30, Try.ntmps30
  go_wp2_with fail
  have x0 := boxN_new w #[.int .u32 0, .slice none 0 0] 25
  have h0 := h.keep ((Below.refl _ w).alloc (Nat.le_refl _) (.cells #[.int .u32 0, .slice none 0 0] 25))
  have ho0 := (Oth.refl b w).alloc (.cells #[.int .u32 0, .slice none 0 0] 25)
  have hz0 : w.heap.size < (w.alloc (.cells #[.int .u32 0, .slice none 0 0] 25)).heap.size := by simp
  generalize hwa : w.alloc (.cells #[.int .u32 0, .slice none 0 0] 25) = wa at *
  have hbr : b < w.heap.size := hb
  obtain ⟨B0, hB0⟩ : ∃ B0, B0 = w.heap.size := ⟨_, rfl⟩
  rw [← hB0] at x0 hbr hz0 ⊢
  have hB0' : w.heap.size ≤ B0 := Nat.le_of_eq hB0.symm
  clear hwa hB0 h hb
  refine (refNum wa b A c l er h0 4294967295 (by decide)).mono ?_
  rintro e w1 ⟨rfl, ⟨A1, c1, h1⟩, ho1⟩
  have hle := num_le 4294967295 l er
  have HR0 : Hid (rdS l er = rdS l er) := hide rfl
  obtain ⟨r, hr⟩ : ∃ r, r = num 4294967295 l er := ⟨_, rfl⟩
  rw [← hr] at h1 hle ⊢
  obtain ⟨n1, l1, e1⟩ := r
  dsimp only at h1 hle ⊢
  obtain ⟨id, rfl⟩ : ∃ id : UInt32, n1 = id.toNat := ⟨UInt32.ofNat n1, (ofNat32 (by omega)).symm⟩
  have HA := hide hr
  have x1 := x0.oth ho1 (by omega)
  have ho1' := ho0.trans ho1
  have a32 : (id.toNat : Int) % 4294967296 = (id.toNat : Int) := by omega
  have a32w : IntKind.u32.wrap (id.toNat : Int) = (id.toNat : Int) := by rw [IntKind.wrap_u32]; omega
  clear hr ho0 h0 x0
  go_wp2_with fail
  have xs := boxN_new w1 #[.int .u32 (id.toNat : Int), .slice none 0 0] 25
  have hbA := (Below.refl w1.heap.size w1).alloc (Nat.le_refl _) (.cells #[.int .u32 (id.toNat : Int), .slice none 0 0] 25)
  have h2 := h1.keep hbA
  have x2 := x1.keep hbA x1.z
  have ho2 := ho1'.alloc (.cells #[.int .u32 (id.toNat : Int), .slice none 0 0] 25)
  have o1 : b < w1.heap.size := h1.z
  have o2 : B0 < w1.heap.size := x1.z
  have o4 : w.heap.size ≤ w1.heap.size := Nat.le_trans hB0' (Nat.le_of_lt o2)
  generalize w1.alloc (.cells #[.int .u32 (id.toNat : Int), .slice none 0 0] 25) = w2 at *
  generalize w1.heap.size = bs at *
  have G2 : GU w B0 b bs id A1 c1 l1 e1 none 0 [] w2 := ⟨h2, xs, World.ownsRow_nil _ _ _ _, x2, ho2, o1, o2, by omega, o4⟩
  refine (refNum w2 b A1 c1 l1 e1 h2 8 (by decide)).mono ?_
  rintro e w3 ⟨rfl, ⟨A2, c2, h3⟩, ho3⟩
  have hle2 := num_le 8 l1 e1
  obtain ⟨r, hr⟩ : ∃ r, r = num 8 l1 e1 := ⟨_, rfl⟩
  rw [← hr] at h3 hle2 ⊢
  obtain ⟨N, l2, e2⟩ := r
  dsimp only at h3 hle2 ⊢
  have G3 := G2.go h3 ho3
  have HN := hide hr
  obtain ⟨Q, hQ⟩ : ∃ Q, rdFs N l2 e2 [] = Q := ⟨_, rfl⟩
  have HQ := hide hQ
  clear hr hQ a32 a32w hbA G2 ho3 h3 h2 x2 ho2 xs ho1 ho1' h1 x1 hz0 hle
  go_wp2_with fail
  go_loopw [5] (GURr w B0 b bs id N Q) (fun iv _ => N - (intOf iv).toNat)
  case atStart => exact ⟨0, N, A2, c2, l2, e2, none, 0, [], rfl, by omega, by simp; omega, HQ, G3⟩
  case round =>
    clear G3
    obtain ⟨k, m, A', c', l', e', fA, fc, fs, rfl, hkm, hlen, hrd, G⟩ := hrel
    by_cases he : e' = 0
    · subst he
      have k1 : wr.cell? ⟨b, 1, none⟩ = some (.int .i64 0) := G.rd.c1
      by_cases hm : m = 0
      · have hq := rdFs_end (m := m) (l := l') (e := 0) (fs := fs) (.inl hm)
        have hQ2 := hrd.out
        rw [hq] at hQ2
        have HQ2 := hide hQ2
        have t1 : ¬ k < N := by omega
        have s0 := G.bx.cell 0 _ rfl
        have s1 := G.bx.cell 1 _ rfl
        clear hq hQ2 hm hkm hlen
        go_wp2_with fail
        refine (refCheck wr id _ fc fA fs G.rdF).mono ?_
        rintro e w5 ⟨rfl, hb5⟩
        have G4 := G.call hb5
        have GX := G4.why (check id fs)
        have HS : Hid (rdS l er = ⟨id, fs, l', check id fs⟩) := hide (by have := rdS_of HA.out HN.out (HQ.out.trans HQ2.out.symm); simpa using this)
        have d1 := G4.rd.c1
        have d2 := G4.rd.f1
        have v0 := G4.bx.cell 0 _ rfl
        have v1 := G4.bx.cell 1 _ rfl
        have r0 := G4.rb.cell 0 _ rfl
        have r1 := G4.rb.cell 1 _ rfl
        have rf0 := G4.rb.free 0 (by simp)
        have rf1 := G4.rb.free 1 (by simp)
        have n1 : b ≠ bs := by omega
        have n2 : b ≠ B0 := by omega
        have n3 : bs ≠ b := by omega
        have n4 : B0 ≠ b := by omega
        have GX' := hide GX
        clear GX G4 G hb5 k1 s0 s1
        go_wp2_with fail
        have GX := GX'.out

        (try simp only [Exit.inBlock, Exit.then])
        obtain ⟨y1, y2, y3, y4, y5⟩ := GX.fin (.int .u32 (id.toNat : Int)) (.slice fA fs.length fc)
        refine bodyPost_ret (ret_sch1 (b := B0) (x := .int .u32 (id.toNat : Int)) (y := .slice fA fs.length fc) rfl _ _ rfl y4 y5) rfl ?_
        rw [HS.out]
        exact ⟨fA, fc, rfl, y1, ⟨_, _, y2 hbr⟩, y3 hB0'⟩
      · obtain ⟨m, rfl⟩ : ∃ m', m = m' + 1 := ⟨m - 1, by omega⟩
        have hq := hrd.out
        rw [rdFs_on] at hq
        have HQ2 := hide hq
        have t1 : k < N := by omega
        clear hq hm hrd
        go_wp2_with fail
        refine (refNum wr b A' c' l' 0 G.rd 4294967295 (by decide)).mono ?_
        rintro e w4 ⟨rfl, ⟨A4, c4, rd4⟩, ho4⟩
        have hle := num_le 4294967295 l' 0
        obtain ⟨r, hr⟩ : ∃ r, num 4294967295 l' 0 = r := ⟨_, rfl⟩
        rw [hr] at rd4 hle ⊢
        obtain ⟨a, l4, e4⟩ := r
        dsimp only at rd4 hle ⊢
        obtain ⟨fid, rfl⟩ : ∃ id : UInt32, a = id.toNat := ⟨UInt32.ofNat a, (ofNat32 (by omega)).symm⟩
        have HF1 := hide hr
        have a32 : (fid.toNat : Int) % 4294967296 = (fid.toNat : Int) := by omega
        have a32w : IntKind.u32.wrap (fid.toNat : Int) = (fid.toNat : Int) := by rw [IntKind.wrap_u32]; omega
        clear hr hle k1
        go_wp2_with fail
        have fb5 := boxN_new w4 #[.int .u32 (fid.toNat : Int), .string ⟨#[]⟩, .int .u8 0, .bool false] 96
        have hbf := (Below.refl w4.heap.size w4).alloc (Nat.le_refl _) (.cells #[.int .u32 (fid.toNat : Int), .string ⟨#[]⟩, .int .u8 0, .bool false] 96)
        have rd5 := rd4.keep hbf
        have ho5 := ho4.alloc (.cells #[.int .u32 (fid.toNat : Int), .string ⟨#[]⟩, .int .u8 0, .bool false] 96)
        have zf : wr.heap.size ≤ w4.heap.size := ho4.size
        have zb : b < w4.heap.size := rd4.z
        clear a32 a32w hbf rd4 ho4
        generalize w4.alloc (.cells #[.int .u32 (fid.toNat : Int), .string ⟨#[]⟩, .int .u8 0, .bool false] 96) = w5 at *
        generalize w4.heap.size = bf at *
        simp only [Array.toList] at fb5
        refine (refText w5 b A4 c4 l4 e4 rd5 16 (by decide)).mono ?_
        rintro e w6 ⟨rfl, ⟨A6, c6, rd6⟩, ho6⟩
        obtain ⟨r, hr⟩ : ∃ r, num 16 l4 e4 = r := ⟨_, rfl⟩
        rw [hr] at rd6 ⊢
        have HF2 := hide hr
        obtain ⟨nm, hnm⟩ : ∃ nm, textS r = nm := ⟨_, rfl⟩
        obtain ⟨l6, hl6⟩ : ∃ l6, textL r = l6 := ⟨_, rfl⟩
        obtain ⟨e6, he6⟩ : ∃ e6, textE r = e6 := ⟨_, rfl⟩
        rw [hl6, he6] at rd6
        rw [hnm]
        have HNM := hide (And.intro hnm (And.intro hl6 he6))
        have fb6 := fb5.oth ho6 (by omega)
        have ho6' := ho5.trans ho6
        have u1 := fb6.cell 1 _ rfl
        have u2 := fb6.free 1 (by simp)
        clear hr hnm hl6 he6 ho5 ho6 rd5 fb5
        go_wp2_with fail
        have rd7 := rd6.elsewhere (p := ⟨bf, 1, none⟩) zb (.string nm)
        have ho7 := ho6'.setNew (p := ⟨bf, 1, none⟩) zf (.string nm)
        have fb7 := fb6.set (j := 1) (.string nm) rfl
        clear u1 u2 rd6 ho6' fb6
        generalize w6.setCell ⟨bf, 1, none⟩ (.string nm) = w7 at *
        simp only [List.set_cons_succ, List.set_cons_zero] at fb7
        refine (refNum w7 b A6 c6 l6 e6 rd7 255 (by decide)).mono ?_
        rintro e w8 ⟨rfl, ⟨A8, c8, rd8⟩, ho8⟩
        have hle := num_le 255 l6 e6
        obtain ⟨r2, hr⟩ : ∃ r2, num 255 l6 e6 = r2 := ⟨_, rfl⟩
        rw [hr] at rd8 hle ⊢
        obtain ⟨a, l8, e8⟩ := r2
        dsimp only at rd8 hle ⊢
        obtain ⟨kd, rfl⟩ : ∃ kd : UInt8, a = kd.toNat := ⟨UInt8.ofNat a, (ofNat8 (by omega)).symm⟩
        have HF3 := hide hr
        have a8 : (kd.toNat : Int) % 256 = (kd.toNat : Int) := by omega
        have a8w : IntKind.u8.wrap (kd.toNat : Int) = (kd.toNat : Int) := by rw [IntKind.wrap_u8]; omega
        have fb8 := fb7.oth ho8 (by omega)
        have ho8' := ho7.trans ho8
        have u1 := fb8.cell 2 _ rfl
        have u2 := fb8.free 2 (by simp)
        clear hr hle ho7 ho8 rd7 fb7
        go_wp2_with fail
        have rd9 := rd8.elsewhere (p := ⟨bf, 2, none⟩) zb (.int .u8 (kd.toNat : Int))
        have ho9 := ho8'.setNew (p := ⟨bf, 2, none⟩) zf (.int .u8 (kd.toNat : Int))
        have fb9 := fb8.set (j := 2) (.int .u8 (kd.toNat : Int)) rfl
        clear u1 u2 rd8 ho8' fb8 a8 a8w
        generalize w8.setCell ⟨bf, 2, none⟩ (.int .u8 (kd.toNat : Int)) = w9 at *
        simp only [List.set_cons_succ, List.set_cons_zero] at fb9
        refine (refNum w9 b A8 c8 l8 e8 rd9 1 (by decide)).mono ?_
        rintro e wA ⟨rfl, ⟨AA, cA, rdA⟩, hoA⟩
        obtain ⟨r2, hr⟩ : ∃ r2, num 1 l8 e8 = r2 := ⟨_, rfl⟩
        rw [hr] at rdA ⊢
        obtain ⟨q, lA, eA⟩ := r2
        dsimp only at rdA ⊢
        have HF4 := hide hr
        obtain ⟨qb, hqb⟩ : ∃ qb, qb = decide (q = 1) := ⟨_, rfl⟩
        have hq1 : ((q : Int) == 1) = qb := by rw [hqb, Bool.eq_iff_iff]; simp; omega
        have HQB := hide hqb
        have fbA := fb9.oth hoA (by omega)
        have hoA' := ho9.trans hoA
        have u1 := fbA.cell 3 _ rfl
        have u2 := fbA.free 3 (by simp)
        have rdB := rdA.elsewhere (p := ⟨bf, 3, none⟩) zb (.bool qb)
        have hoB := hoA'.setNew (p := ⟨bf, 3, none⟩) zf (.bool qb)
        have fbB := fbA.set (j := 3) (.bool qb) rfl
        have GA := G.go rdA hoA'
        have GB := G.go rdB hoB
        have v1 := GA.bx.cell 1 _ rfl
        have x0 := fbA.cell 0 _ rfl
        have x1 := fbA.cell 1 _ rfl
        have x2 := fbA.cell 2 _ rfl
        have nbs : bs ≠ bf := by have := G.bx.z; omega
        have nbs' : bf ≠ bs := fun q => nbs q.symm
        obtain ⟨f, hf⟩ : ∃ f : Fd, f = ⟨fid, nm, kd, qb⟩ := ⟨_, rfl⟩
        have hfv : (#[.int .u32 (fid.toNat : Int), .string nm, .int .u8 (kd.toNat : Int), .bool qb] : Array Value).toList = fdV f := by rw [hf]; rfl
        have hone : ∀ u ∈ fdV f, u.oneCell' = true := fun u hu => fdsV_one [f] u (by simpa [fdsV] using hu)
        have hlit := GB.lit f (cs := #[.int .u32 (fid.toNat : Int), .string nm, .int .u8 (kd.toNat : Int), .bool qb]) hfv rfl
        rw [show (wA.setCell ⟨bf, 3, none⟩ (.bool qb)).heap.size = wA.heap.size by simp] at hlit
        have HLIT := hide hlit
        have hRF : rdF l' 0 = (f, lA, eA) := by
          have := rdF_of HF1.out HF2.out (e3 := e8) (l3 := l8) (kd := kd) (by rw [HNM.out.2.1, HNM.out.2.2]; exact HF3.out) HF4.out
          rw [this, hf, HQB.out, HNM.out.1]
        have HQ3 : Hid (rdFs m lA eA (fs ++ [f]) = Q) := hide (by have := HQ2.out; rw [hRF] at this; exact this)
        have hbz : bs + 1 ≤ wA.heap.size := GA.bx.z
        have HGB := hide GB
        clear hr ho9 hoA rd9 fb9 hqb hlit hRF hfv hf GA GB G rdB hoB fbB rdA hoA'
        go_wp2_with (at_builtin; refine wpList_app _ tyFields rfl (.tmp 41) (.tmp 43) rfl (bs + 1) _ _ _ rfl HLIT.out.1 _ _ 1 1 _ rfl HLIT.out.2 hone (by omega) (by simp; omega) ?_; intro v3 w8 hown8 hg8 _; obtain ⟨g, cap, rfl, cc1, ff1, G8⟩ := HGB.out.grown (f := f) hown8 hg8; have HG8 := hide G8; clear hown8 hg8 G8)
        go_roundw
        case rel => exact ⟨k + 1, m, _, _, lA, eA, _, _, fs ++ [f], by go_num, by omega, by simp; omega, HQ3, HG8.out⟩
        case measure => simp [intOf]; omega
    · have hq := rdFs_end (m := m) (l := l') (e := e') (fs := fs) (.inr he)
      have hQ2 := hrd.out
      rw [hq] at hQ2
      have HQ2 := hide hQ2
      have HS : Hid (rdS l er = ⟨id, fs, l', e'⟩) := hide (by have := rdS_of HA.out HN.out (HQ.out.trans HQ2.out.symm); rw [if_neg he] at this; exact this)
      have k1 := G.rd.c1
      have v0 := G.bx.cell 0 _ rfl
      have v1 := G.bx.cell 1 _ rfl
      have r0 := G.rb.cell 0 _ rfl
      have r1 := G.rb.cell 1 _ rfl
      have rf0 := G.rb.free 0 (by simp)
      have rf1 := G.rb.free 1 (by simp)
      have n1 : bs ≠ B0 := by omega
      have n2 : B0 ≠ bs := by omega
      have t2 : ((e' : Int) == 0) = false := by rw [beq_eq_false_iff_ne]; omega
      have GX' := hide G
      clear G hq hQ2 he
      rcases Nat.lt_or_ge k N with t1 | t1
      · go_wp2_with fail
        have GX := GX'.out
        (try simp only [Exit.inBlock, Exit.then])
        obtain ⟨y1, y2, y3, y4, y5⟩ := GX.fin (.int .u32 (id.toNat : Int)) (.slice fA fs.length fc)
        refine bodyPost_ret (ret_sch1 (b := B0) (x := .int .u32 (id.toNat : Int)) (y := .slice fA fs.length fc) rfl _ _ rfl y4 y5) rfl ?_
        rw [HS.out]
        exact ⟨fA, fc, rfl, y1, ⟨_, _, y2 hbr⟩, y3 hB0'⟩
      · have t3 : ¬ k < N := by omega
        clear t1
        go_wp2_with fail
        have GX := GX'.out
        (try simp only [Exit.inBlock, Exit.then])
        obtain ⟨y1, y2, y3, y4, y5⟩ := GX.fin (.int .u32 (id.toNat : Int)) (.slice fA fs.length fc)
        refine bodyPost_ret (ret_sch1 (b := B0) (x := .int .u32 (id.toNat : Int)) (y := .slice fA fs.length fc) rfl _ _ rfl y4 y5) rfl ?_
        rw [HS.out]
        exact ⟨fA, fc, rfl, y1, ⟨_, _, y2 hbr⟩, y3 hB0'⟩
end Go.Proofs.Ytlccpchlclpnaaa
