/- THE WALK of the catalog's Open. No statement of the seat is proved here; no condition but sizes. -/
import Derived.Test.YtpfofefecamkfaaGreatDoorCtO
namespace Go.Proofs.YtpfofefecamkfaaGreatDoor
open Go.RowKit

theorem bytes_nil {s:ByteArray}:(s.toList == []) = decide (s.size = 0):=by
 rw [ByteArray.toList_eq,Bool.eq_iff_iff,beq_iff_eq,decide_eq_true_iff]
 show s.data.toList = [] ↔ s.data.size = 0
 rw [← Array.length_toList,List.length_eq_zero_iff]
theorem catR_new (M:Nat → Prop) (w:World) (sb:Nat):CatR (w.alloc (.cells #[.pointer (some ⟨sb,0,none⟩),.slice none 0 0,.slice none 0 0,.int .u64 0,.string ⟨#[]⟩] 109)) (fun k => ¬ Ma M w.heap.size k) w.heap.size sb noC :=
 ⟨none,0,[],none,0,[],boxN_new w #[.pointer (some ⟨sb,0,none⟩),.slice none 0 0,.slice none 0 0,.int .u64 0,.string ⟨#[]⟩] 109,TabQ.nil _ _,rfl,rfl⟩
theorem open_bad {s:So} {p:Ps} (h:check p.1 p.2 ≠ 0):s.openC p = (s,none,check p.1 p.2):=by unfold So.openC;rw [if_pos h]
theorem open_dead {s:So} {p:Ps} (h:check p.1 p.2 = 0) (hd:s.dead = true):s.openC p = (s,none,120):=by unfold So.openC;rw [if_neg (by rw [h];simp)];unfold So.open2;rw [if_pos hd];rfl
theorem open_begin {s:So} {p:Ps} (h:check p.1 p.2 = 0) (hd:s.dead = false) (hc:s.cell.size = 0) {r:So × Ct × Nat} (hr:s.begin p = r):s.openC p = So.open3 r:=by unfold So.openC;rw [if_neg (by rw [h];simp)];unfold So.open2;rw [if_neg (by rw [hd];simp),if_pos hc,hr]
theorem open_old {s:So} {p:Ps} (h:check p.1 p.2 = 0) (hd:s.dead = false) (hc:s.cell.size ≠ 0) {r:Ct × Nat} (hr:s.refresh noC = r):s.openC p = So.open3 (s,r):=by unfold So.openC;rw [if_neg (by rw [h];simp)];unfold So.open2;rw [if_neg (by rw [hd];simp),if_neg hc,hr]
theorem open3_ok {r:So × Ct × Nat} (h:r.2.2 = 0):So.open3 r = (r.1,some r.2.1,0):=by unfold So.open3;rw [if_pos h]
theorem open3_bad {r:So × Ct × Nat} (h:r.2.2 ≠ 0):So.open3 r = (r.1,none,r.2.2):=by unfold So.open3;rw [if_neg h]
theorem opn_none {M:Nat → Prop} {w w':World} {sb mb K er:Nat} {s s2:So} {p:Ps} (h:s.openC p = (s2,none,er)) (hE:Env M w' sb mb K s2) (hm:Mst (Ms sb mb) w w'):OpnEnd M w sb mb K (s.openC p) (.returned (.tuple #[.pointer none,.int .i64 (er:Int)])) w':=by rw [h];exact ⟨rfl,hE,hm⟩
theorem opn_some {M:Nat → Prop} {w w':World} {sb mb K cb:Nat} {s s2:So} {c:Ct} {p:Ps} (h:s.openC p = (s2,some c,0)) (h1:w.heap.size ≤ cb) (h2:cb < w'.heap.size) (hE:Env (Ma M cb) w' sb mb K s2) (hC:CatR w' (fun k => ¬ Ma M cb k) cb sb c) (hm:Mst (Ms sb mb) w w'):OpnEnd M w sb mb K (s.openC p) (.returned (.tuple #[.pointer (some ⟨cb,0,none⟩),.int .i64 0])) w':=by rw [h];exact ⟨cb,rfl,h1,h2,hE,hC,hm⟩
set_option maxRecDepth 100000 in
set_option maxHeartbeats 4000000 in
theorem catOpen (M:Nat → Prop) (w:World) (sb mb K:Nat) (s:So) (h:Env M w sb mb K s) (hK:K ≤ 790000) (id:UInt32) (fs:List Fd) (A:Option Addr) (k:Nat) (hr:RdQ w (fun k => ¬ M k) 4 A fs.length k (fdsV fs)) :
 Calls Tryz.prog 10 #[.pointer (some ⟨sb,0,none⟩),.agg #[.int .u32 (id.toNat:Int),.slice A fs.length k]] w (OpnEnd M w sb mb (K + 2) (s.openC (id,fs))):=by
 have hM1:=h.m1
 have hM2:=h.m2
 have hl1:=h.lt sb hM1
 have hl2:=h.lt mb hM2
 have hb1:=(Below.refl w.heap.size w).alloc (Nat.le_refl _) (.cells #[.int .u32 (id.toNat:Int),.slice A fs.length k] 33)
 have y3:=boxN_new w #[.int .u32 (id.toNat:Int),.slice A fs.length k] 33
 have hE1:=hide (h.low hb1)
 have hR1:=hide (hr.low hb1)
 have hz1:=hb1.size
 have HB1:=hide hb1
 clear h hr hb1
 go_enter Tryz.func10,Tryz.ntmps10
 go_upto_region 3 with fail
 generalize w.alloc (.cells #[.int .u32 (id.toNat:Int),.slice A fs.length k] 33) = w1 at *
 obtain ⟨b3,hb3⟩:∃ b,b = w.heap.size:=⟨_,rfl⟩
 rw [← hb3] at y3 ⊢
 have H3:=hide hb3
 clear hb3
 have s0:=y3.cell 0 _ rfl
 have s1:=y3.cell 1 _ rfl
 have hck:=schCheck w1 id fs.length k A fs hR1.out.rd
 go_wp2_with fail
 refine hck.mono ?_
 rintro e w2 ⟨rfl,hb2⟩
 clear hck s0 s1
 have y32:=y3.keep hb2 y3.z
 have HB2:=hide (below_call HB1.out HB1.out.size hb2)
 have HE2:=hide (hE1.out.low hb2)
 have HR2:=hide (hR1.out.low hb2)
 clear y3 hb2
 obtain ⟨ck,hck⟩:∃ ck,check id fs = ck:=⟨_,rfl⟩
 have HCK:=hide hck
 rw [hck]
 clear hck
 by_cases h0:ck = 0
 ·have t15:((ck:Int) != 0) = false:=by rw [h0];rfl
  have H0:=hide h0
  have hbA:=(Below.refl w2.heap.size w2).alloc (Nat.le_refl _) (.cells #[.pointer (some ⟨sb,0,none⟩),.slice none 0 0,.slice none 0 0,.int .u64 0,.string ⟨#[]⟩] 109)
  have hcn:=catR_new M w2 sb
  have hzz:w2.heap.size < (w2.alloc (.cells #[.pointer (some ⟨sb,0,none⟩),.slice none 0 0,.slice none 0 0,.int .u64 0,.string ⟨#[]⟩] 109)).heap.size:=by simp
  have y33:=y32.keep hbA y32.z
  have HB3:=hide (below_call HB2.out HB2.out.size hbA)
  have HE2':=hide (HE2.out.low hbA)
  have HE3:=hide (HE2.out.add hbA (Nat.le_refl _) hzz)
  have HR3:=hide (HR2.out.add hbA (Nat.le_refl _))
  have hcz:w.heap.size ≤ w2.heap.size:=HB2.out.size
  clear h0 hbA y32
  go_upto_region 7 with fail
  clear t15
  generalize w2.alloc (.cells #[.pointer (some ⟨sb,0,none⟩),.slice none 0 0,.slice none 0 0,.int .u64 0,.string ⟨#[]⟩] 109) = w3 at *
  obtain ⟨cb,hcb⟩:∃ b,b = w2.heap.size:=⟨_,rfl⟩
  rw [← hcb] at hcn hzz HE3 HR3 hcz ⊢
  have HCN:=hide hcn
  have h1:cb ≠ sb:=by omega
  have h2:cb ≠ mb:=by omega
  have hcl:=fun (N:Nat) (hS:StR (fun k => ¬ M k) w3 sb mb N s) => objCell _ w3 sb mb N s hS
  obtain ⟨N,hN,hS⟩:=HE2'.out.st
  have hcl:=hcl N hS
  clear hS hcn hcb
  have s0:=y33.cell 0 _ rfl
  have s1:=y33.cell 1 _ rfl
  clear y33
  cases hd:s.dead with
  | true =>
    unfold So.cellE at hcl
    rw [if_pos hd] at hcl
    have HO:=hide (open_dead (p:=(id,fs)) (HCK.out.trans H0.out) hd)
    clear hd
    go_wp2_with fail
    refine hcl.mono ?_
    rintro e w4 ⟨rfl,rfl⟩
    clear hcl
    go_wp2_with fail
    go_ret2
    exact opn_none HO.out (HE2'.out.more (by omega)) (Mst.of HB3.out)
  | false =>
    unfold So.cellE at hcl
    rw [if_neg (by rw [hd];simp)] at hcl
    dsimp only at hcl
    rw [show ((0:Nat):Int) = 0 from rfl] at hcl
    have hnl:=bytes_nil (s:=s.cell)
    have HD:=hide hd
    clear hd
    by_cases hc:s.cell.size = 0
    ·rw [decide_eq_true hc] at hnl
     have HC:=hide hc
     have hbg:=catBegin (Ma M cb) w3 sb mb cb K s HE3.out (by omega) HCN.out (.inr rfl) h1 h2 id fs A k HR3.out (by have:=(check_len (HCK.out.trans H0.out)).2.2;omega)
     obtain ⟨r,hr⟩:∃ r,s.begin (id,fs) = r:=⟨_,rfl⟩
     rw [hr] at hbg
     have HOB:=hide (open_begin (p:=(id,fs)) (HCK.out.trans H0.out) HD.out HC.out hr)
     clear hr hc
     go_wp2_with fail
     refine hcl.mono ?_
     rintro e w4 ⟨rfl,rfl⟩
     clear hcl
     go_wp2_with fail
     refine hbg.mono ?_
     rintro e w5 ⟨rfl,hE5,hC5,hm5⟩
     clear hbg
     have HF:=hide (And.intro hE5 (And.intro hC5 ((Mst.of (M:=Mc sb mb cb) HB3.out).trans hm5)))
     clear hE5 hC5 hm5
     have HM5:Hid (Mst (Ms sb mb) w w5):=hide (HF.out.2.2.imp fun j hj q => by rcases q with q | q | q;exact .inl q;exact .inr q;omega)
     by_cases hr0:r.2.2 = 0
     ·have t39:((r.2.2:Int) != 0) = false:=by rw [hr0];rfl
      have HO:=hide (HOB.out.trans (open3_ok hr0))
      clear hr0
      go_wp2_with fail
      go_ret2
      exact opn_some HO.out hcz (HF.out.1.lt cb (.inr rfl)) HF.out.1 HF.out.2.1 HM5.out
     ·have t39:((r.2.2:Int) != 0) = true:=by rw [bne_iff_ne];omega
      have HO:=hide (HOB.out.trans (open3_bad hr0))
      clear hr0
      go_wp2_with fail
      go_ret2
      exact opn_none HO.out (HF.out.1.less hM1 hM2) HM5.out
    ·rw [decide_eq_false hc] at hnl
     have HC:=hide hc
     have hrf:=catRefresh (Ma M cb) w3 sb mb cb K s HE3.out noC HCN.out (.inr rfl) h1 h2
     obtain ⟨r,hr⟩:∃ r,s.refresh noC = r:=⟨_,rfl⟩
     rw [hr] at hrf
     have HOB:=hide (open_old (p:=(id,fs)) (HCK.out.trans H0.out) HD.out HC.out hr)
     clear hr hc
     go_wp2_with fail
     refine hcl.mono ?_
     rintro e w4 ⟨rfl,rfl⟩
     clear hcl
     go_wp2_with fail
     refine hrf.mono ?_
     rintro e w5 ⟨rfl,hE5,hC5,hm5⟩
     clear hrf
     have HF:=hide (And.intro hE5 (And.intro hC5 ((Mst.of (M:=fun k => k = cb) HB3.out).trans hm5)))
     clear hE5 hC5 hm5
     have HM5:Hid (Mst (Ms sb mb) w w5):=hide (HF.out.2.2.imp fun j hj q => by omega)
     by_cases hr0:r.2 = 0
     ·have t39:((r.2:Int) != 0) = false:=by rw [hr0];rfl
      have HO:=hide (HOB.out.trans (open3_ok hr0))
      clear hr0
      go_wp2_with fail
      go_ret2
      exact opn_some HO.out hcz (HF.out.1.lt cb (.inr rfl)) (HF.out.1.more (by omega)) HF.out.2.1 HM5.out
     ·have t39:((r.2:Int) != 0) = true:=by rw [bne_iff_ne];omega
      have HO:=hide (HOB.out.trans (open3_bad hr0))
      clear hr0
      go_wp2_with fail
      go_ret2
      exact opn_none HO.out ((HF.out.1.less hM1 hM2).more (by omega)) HM5.out
 ·have t15:((ck:Int) != 0) = true:=by rw [bne_iff_ne];omega
  have HO:=hide (open_bad (s:=s) (p:=(id,fs)) (by rw [HCK.out];exact h0))
  have HO2:Hid (s.openC (id,fs) = (s,none,ck)):=hide (by rw [HO.out,HCK.out])
  clear h0 y32
  go_wp2_with fail
  go_ret2
  exact opn_none HO2.out (HE2.out.more (by omega)) (Mst.of HB2.out)
end Go.Proofs.YtpfofefecamkfaaGreatDoor
