/- THE WALK of the catalog's draft. No statement of the seat is proved here; no condition but sizes. -/
import Derived.Test.YtpfofefecamkfaaGreatDoorCtG
import Derived.BigRegion
namespace Go.Proofs.YtpfofefecamkfaaGreatDoor
open Go.RowKit

set_option maxRecDepth 100000 in
set_option maxHeartbeats 8000000 in
theorem catDraft (M:Nat → Prop) (w:World) (sb mb cb K:Nat) (s:So) (hE:Env M w sb mb K s) (c:Ct) (hc:CatR w (fun k => ¬ M k) cb sb c) (hok:c.t.ok) (d:Dr) (sh:UInt32) (fA:Option Addr) (fc:Nat) (aA:Option Addr) (ac:Nat) (al:List El) (dA:Option Addr) (dc:Nat) (hd:DrQ w (fun k => ¬ M k) d fA fc aA ac al dA dc) :
 Calls Tryz.prog 43 #[.pointer (some ⟨cb,0,none⟩),.agg #[.bool d.rew,.slice fA d.fs.length fc,.slice aA al.length ac,.slice dA d.drops.length dc,.int .u64 (d.off.toNat:Int),.int .u64 (d.tim.toNat:Int)],.int .u32 (sh.toNat:Int)] w (DrEnd w (fun k => ¬ M k) (s.draft c.t d sh)):=by
 obtain ⟨sA,sc,ss,nA,nc,ns,hx,hT,e1,e2⟩:=hc
 have hbd:=hok.bd e1 e2
 have hnm:=hok.now_ms
 have c0:=hx.cell 0 _ rfl
 have c1:=hx.cell 1 _ rfl
 have c2:=hx.cell 2 _ rfl
 have c3:=hx.cell 3 _ rfl
 have hcz:cb < w.heap.size:=hx.z
 have hb1:=(Below.refl w.heap.size w).alloc (Nat.le_refl _) (.cells #[.bool d.rew,.slice fA d.fs.length fc,.slice aA al.length ac,.slice dA d.drops.length dc,.int .u64 (d.off.toNat:Int),.int .u64 (d.tim.toNat:Int)] 48)
 have yd:=boxN_new w #[.bool d.rew,.slice fA d.fs.length fc,.slice aA al.length ac,.slice dA d.drops.length dc,.int .u64 (d.off.toNat:Int),.int .u64 (d.tim.toNat:Int)] 48
 have HE:=hide hE
 have HD:=hide hd
 have HT:=hide hT
 have HX:=hide (And.intro e1 (And.intro e2 (And.intro hbd (And.intro hnm hok))))
 clear hx hT e1 e2 hE hd hbd hnm hok
 go_enter Tryz.func43,Tryz.ntmps43
 go_upto_region 1 with fail
 have d0:=(hb1.cell (p:=⟨cb,0,none⟩) hcz).trans c0
 have d1:=(hb1.cell (p:=⟨cb,1,none⟩) hcz).trans c1
 have d2:=(hb1.cell (p:=⟨cb,2,none⟩) hcz).trans c2
 have d3:=(hb1.cell (p:=⟨cb,3,none⟩) hcz).trans c3
 have hT1:=HT.out.low hb1
 have hz1:(w.alloc (.cells #[.bool d.rew,.slice fA d.fs.length fc,.slice aA al.length ac,.slice dA d.drops.length dc,.int .u64 (d.off.toNat:Int),.int .u64 (d.tim.toNat:Int)] 48)).heap.size = w.heap.size + 1:=by simp
 generalize w.alloc (.cells #[.bool d.rew,.slice fA d.fs.length fc,.slice aA al.length ac,.slice dA d.drops.length dc,.int .u64 (d.off.toNat:Int),.int .u64 (d.tim.toNat:Int)] 48) = w1 at *
 obtain ⟨b4,hb4⟩:∃ b,b = w.heap.size:=⟨_,rfl⟩
 have HB4:=hide hb4
 rw [← hb4] at yd hz1 ⊢
 have hc4:cb < b4:=by omega
 clear hb4 c0 c1 c2 c3
 have hz01:=hb1.size
 have hb2:=(Below.refl w1.heap.size w1).alloc (Nat.le_refl _) (.cells #[.int .u64 0,.int .u64 0,.int .u64 0,.int .u64 0,.int .u64 0,.int .u32 0,.slice none 0 0] 43)
 have y6:=boxN_new w1 #[.int .u64 0,.int .u64 0,.int .u64 0,.int .u64 0,.int .u64 0,.int .u32 0,.slice none 0 0] 43
 have yd2:=yd.keep hb2 yd.z
 have hcz1:cb < w1.heap.size:=by omega
 have g0:=(hb2.cell (p:=⟨cb,0,none⟩) hcz1).trans d0
 have g1:=(hb2.cell (p:=⟨cb,1,none⟩) hcz1).trans d1
 have g2:=(hb2.cell (p:=⟨cb,2,none⟩) hcz1).trans d2
 have g3:=(hb2.cell (p:=⟨cb,3,none⟩) hcz1).trans d3
 have hT2:=hT1.low hb2
 have hbb:=below_call hb1 hb1.size hb2
 have hz2:w1.heap.size < (w1.alloc (.cells #[.int .u64 0,.int .u64 0,.int .u64 0,.int .u64 0,.int .u64 0,.int .u32 0,.slice none 0 0] 43)).heap.size:=by simp
 generalize w1.alloc (.cells #[.int .u64 0,.int .u64 0,.int .u64 0,.int .u64 0,.int .u64 0,.int .u32 0,.slice none 0 0] 43) = w2 at *
 obtain ⟨b6,hb6⟩:∃ b,b = w1.heap.size:=⟨_,rfl⟩
 rw [← hb6] at y6 hz2
 rw [← hz1, ← hb6]
 have H46:=hide (show b4 < b6 by omega)
 clear hz1
 have H6:=hide (show w.heap.size < b6 by have:=HB4.out;have:=H46.out;omega)
 clear hb1 hb2 d0 d1 d2 d3 hT1 yd hcz1 hz01 hb6 hz2 w1
 have hnow:=metaNow w2 sA sc ss nA nc ns c.t.cur hT2.tab (by have:=HX.out.2.2.1.n32;omega) (fun s hs => by have:=HX.out.2.2.1.m8 s hs;omega)
 go_wp2_with fail
 refine hnow.mono ?_
 rintro e w3 ⟨mA,mc,rfl,hmo,hb3⟩
 clear hnow
 rw [now_at HX.out.2.1] at hmo ⊢
 rw [now_ix HX.out.2.1]
 obtain ⟨nw,hnw⟩:∃ nw,c.t.now = nw:=⟨_,rfl⟩
 have HNW:=hide hnw
 rw [hnw] at hmo ⊢
 obtain ⟨th,hth⟩:∃ th,decide (0 ≤ c.t.nowI) = th:=⟨_,rfl⟩
 have HTH:=hide hth
 rw [hth]
 clear hnw hth
 have hb23:=below_call hbb hbb.size hb3
 have y63:=y6.keep hb3 y6.z
 have yd3:=yd2.keep hb3 yd2.z
 have k0:=(hb3.cell (p:=⟨cb,0,none⟩) (Nat.lt_of_lt_of_le hcz hbb.size)).trans g0
 have hmo3:=own_base hmo hbb.size
 have HMO:Hid (∀ g,(Value.slice mA nw.ms.length mc).ownBlock = some g → b6 < g ∧ g < w3.heap.size):=hide (fun g hg => ⟨Nat.lt_of_lt_of_le y6.z (hmo.lt g hg).1,(hmo.lt g hg).2⟩)
 have y63z:=y63.z
 have hb4':=(Below.refl w3.heap.size w3).alloc (Nat.le_refl _) (.cells #[.int .u64 (nw.id.toNat:Int),.int .u64 (nw.par.toNat:Int),.int .u64 (nw.seq.toNat:Int),.int .u64 (nw.off.toNat:Int),.int .u64 (nw.tim.toNat:Int),.int .u32 (nw.sch.toNat:Int),.slice mA nw.ms.length mc] 43)
 have y9:=boxN_new w3 #[.int .u64 (nw.id.toNat:Int),.int .u64 (nw.par.toNat:Int),.int .u64 (nw.seq.toNat:Int),.int .u64 (nw.off.toNat:Int),.int .u64 (nw.tim.toNat:Int),.int .u32 (nw.sch.toNat:Int),.slice mA nw.ms.length mc] 43
 have y64:=y63.keep hb4' y63.z
 have yd4:=yd3.keep hb4' yd3.z
 have k4:=(hb4'.cell (p:=⟨cb,0,none⟩) (Nat.lt_of_lt_of_le hcz hb23.size)).trans k0
 have hmo4:=own_below hmo3 hb4'
 have hb34:=below_call hb23 hb23.size hb4'
 clear hmo hmo3 y6 y63 yd2 yd3 k0 hb3 hb4' hb23 hbb g0 g1 g2 g3 hT2
 go_upto_region 2 with fail
 generalize w3.alloc (.cells #[.int .u64 (nw.id.toNat:Int),.int .u64 (nw.par.toNat:Int),.int .u64 (nw.seq.toNat:Int),.int .u64 (nw.off.toNat:Int),.int .u64 (nw.tim.toNat:Int),.int .u32 (nw.sch.toNat:Int),.slice mA nw.ms.length mc] 43) = w4 at *
 have hb9w:b6 < w3.heap.size:=y63z
 obtain ⟨b9,hb9⟩:∃ b,b = w3.heap.size:=⟨_,rfl⟩
 rw [← hb9] at y9 hb9w ⊢
 have H9:=hide (show b9 = w3.heap.size from hb9)
 clear hb9
 have dd0:=yd4.cell 0 _ rfl
 have dd1:=yd4.cell 1 _ rfl
 have dd2:=yd4.cell 2 _ rfl
 have dd3:=yd4.cell 3 _ rfl
 have dd4:=yd4.cell 4 _ rfl
 have dd5:=yd4.cell 5 _ rfl
 have n0:=y9.cell 0 _ rfl
 have n2:=y9.cell 2 _ rfl
 have n3:=y9.cell 3 _ rfl
 have n4:=y9.cell 4 _ rfl
 obtain ⟨id1,hid1⟩:∃ x:UInt64,nw.id + 1 = x:=⟨_,rfl⟩
 obtain ⟨tm,htm⟩:∃ x:UInt64,(if d.tim.toNat < nw.tim.toNat then nw.tim else d.tim) = x:=⟨_,rfl⟩
 have hinc:IntKind.u64.wrap ((nw.id.toNat:Int) + 1) = (id1.toNat:Int):=by rw [← hid1, ← u64_next]
 have hmax:max (d.tim.toNat:Int) (nw.tim.toNat:Int) = (tm.toNat:Int):=by
  rw [← htm]
  by_cases h:d.tim.toNat < nw.tim.toNat
  ·rw [if_pos h];omega
  ·rw [if_neg h];omega
 have HIT:=hide (And.intro hid1 htm)
 clear hid1 htm
 go_upto_region 3 with fail
 clear hinc hmax
 have hb5:=(Below.refl w4.heap.size w4).alloc (Nat.le_refl _) (.cells #[.int .u64 (id1.toNat:Int),.int .u64 (nw.id.toNat:Int),.int .u64 (nw.seq.toNat:Int),.int .u64 (nw.off.toNat:Int),.int .u64 (tm.toNat:Int),.int .u32 (sh.toNat:Int),.slice none 0 0] 43)
 have y11:=boxN_new w4 #[.int .u64 (id1.toNat:Int),.int .u64 (nw.id.toNat:Int),.int .u64 (nw.seq.toNat:Int),.int .u64 (nw.off.toNat:Int),.int .u64 (tm.toNat:Int),.int .u32 (sh.toNat:Int),.slice none 0 0] 43
 have y65:=y64.keep hb5 y64.z
 have yd5:=yd4.keep hb5 yd4.z
 have y95:=y9.keep hb5 y9.z
 have k5:=(hb5.cell (p:=⟨cb,0,none⟩) (Nat.lt_of_lt_of_le hcz hb34.size)).trans k4
 have hmo5:=own_below hmo4 hb5
 have hb35:=below_call hb34 hb34.size hb5
 have z9:=y9.z
 generalize w4.alloc (.cells #[.int .u64 (id1.toNat:Int),.int .u64 (nw.id.toNat:Int),.int .u64 (nw.seq.toNat:Int),.int .u64 (nw.off.toNat:Int),.int .u64 (tm.toNat:Int),.int .u32 (sh.toNat:Int),.slice none 0 0] 43) = w5 at *
 obtain ⟨b11,hb11⟩:∃ b,b = w4.heap.size:=⟨_,rfl⟩
 rw [← hb11] at y11 z9 ⊢
 clear hb11 hb5 y64 yd4 y9 k4 hmo4 hb34 dd0 dd1 dd2 dd3 dd4 dd5 n0 n2 n3 n4 w4
 have dd2:=yd5.cell 2 _ rfl
 have hcl:=cloneEl w5 w5.heap.size al.length ac aA (elsV al) (HD.out.a.low hb35).row.rd (els_one al) (by have:=HD.out.an;omega) (Nat.le_refl _)
 go_wp2_with fail
 refine hcl.mono ?_
 rintro e w6 ⟨v,rfl,hag,hb6⟩
 clear hcl dd2
 obtain ⟨gA,gc,rfl,hgr⟩:=Rd.of_own hag
 have hb36:=below_call hb35 hb35.size hb6
 have yd6:=yd5.keep hb6 yd5.z
 have y66:=y65.keep hb6 y65.z
 have y96:=y95.keep hb6 y95.z
 have y116:=y11.keep hb6 y11.z
 have k6:=(hb6.cell (p:=⟨cb,0,none⟩) (Nat.lt_of_lt_of_le hcz hb35.size)).trans k5
 have hmo6:=own_below hmo5 hb6
 have hgz:=hb35.size
 have z11:=y11.z
 clear y11 y65 yd5 y95 k5 hmo5 hb35 hb6 y63z
 have dd0:=yd6.cell 0 _ rfl
 have dd3:=yd6.cell 3 _ rfl
 have dd4:=yd6.cell 4 _ rfl
 have n2:=y96.cell 2 _ rfl
 have n3:=y96.cell 3 _ rfl
 have HN:Hid (DrN b4 b6 b9 b11 gA al.length gc mA nw.ms.length mc):=hide ⟨H46.out,hb9w,z9,fun g hg => Nat.lt_of_lt_of_le z11 (hag.lt g hg).1,fun g hg => by have h1:=HMO.out g hg;rw [← H9.out] at h1;exact h1⟩
 have HS:Hid (DrS w w6 d nw id1 nw.seq nw.off tm sh b4 b6 b9 b11 fA fc aA al.length ac dA dc mA mc gA gc al):=hide ⟨yd6,y66,y96,y116,own_base hag hgz,hmo6,hb36⟩
 have hc6:cb < w6.heap.size:=Nat.lt_of_lt_of_le hcz hb36.size
 obtain ⟨sq,hsq⟩:∃ x,(sn1 nw d sh).seq = x:=⟨_,rfl⟩
 obtain ⟨of_,hof⟩:∃ x,(sn1 nw d sh).off = x:=⟨_,rfl⟩
 have HSO:=hide (And.intro hsq hof)
 go_upto_if 48 with fail
 clear yd6 y66 y96 y116 hag hmo6 hb36 hgr hsq hof hgz z11 hb9w z9
 go_cut [7,8,13,48] from 49 to 142 (fun v7 v8 _ _ wx => v7 = .slice none 0 0 ∧ v8 = .int .i64 0 ∧ Hid (draft0 c.t d = 0) ∧ DrS w wx d nw id1 sq of_ tm sh b4 b6 b9 b11 fA fc aA al.length ac dA dc mA mc gA gc (as1 nw d al) ∧ Below b11 w6 wx)
 case first =>
  have S:=HS.out
  by_cases hrw:d.rew = false
  ·have hnr:(!d.rew) = true:=by rw [hrw];rfl
   rw [hrw] at dd0
   by_cases hdl:0 < d.drops.length
   ·have t52:decide ((0:Int) < (d.drops.length:Int)) = true:=decide_eq_true (by omega)
    have hd0:draft0 c.t d = 1:=by unfold draft0;rw [if_pos hrw,if_pos hdl]
    have x0:=S.y11.cell 0 _ rfl
    have x1:=S.y11.cell 1 _ rfl
    have x2:=S.y11.cell 2 _ rfl
    have x3:=S.y11.cell 3 _ rfl
    have x4:=S.y11.cell 4 _ rfl
    have x5:=S.y11.cell 5 _ rfl
    have x6:=S.y11.cell 6 _ rfl
    have r0:=S.y6.cell 0 _ rfl
    have r1:=S.y6.cell 1 _ rfl
    have r2:=S.y6.cell 2 _ rfl
    have r3:=S.y6.cell 3 _ rfl
    have r4:=S.y6.cell 4 _ rfl
    have r5:=S.y6.cell 5 _ rfl
    have r6:=S.y6.cell 6 _ rfl
    have f0:=S.y6.free 0 (by simp)
    have f1:=S.y6.free 1 (by simp)
    have f2:=S.y6.free 2 (by simp)
    have f3:=S.y6.free 3 (by simp)
    have f4:=S.y6.free 4 (by simp)
    have f5:=S.y6.free 5 (by simp)
    have f6:=S.y6.free 6 (by simp)
    have HYS:=hide (S.y6.set7b (v0:=.int .u64 (id1.toNat:Int)) (v1:=.int .u64 (nw.id.toNat:Int)) (v2:=.int .u64 (nw.seq.toNat:Int)) (v3:=.int .u64 (nw.off.toNat:Int)) (v4:=.int .u64 (tm.toNat:Int)) (v5:=.int .u32 (sh.toNat:Int)) (v6:=.slice none 0 0))
    have HG:=hide (S.early (Q:=fun k => ¬ M k) (r:=s.draft c.t d sh) (Nat.le_of_lt H6.out) (er:=1) (draft_e0 hd0 (by decide)) (by decide) (i0:=id1) (i1:=nw.id) (i2:=nw.seq) (i3:=nw.off) (i4:=tm) (i5:=sh) (A6:=none) (n6:=0) (c6:=0))
    clear S hd0
    simp only [hnr]
    clear hrw hnr
    go_wp2_with fail
    refine bodyPost_ret (ret_sn3 (b:=b6) rfl _ _ rfl HYS.out) rfl ?_
    exact HG.out
   ·by_cases hof:d.off.toNat ≤ nw.off.toNat
    ·have hd0:draft0 c.t d = 220:=by unfold draft0;rw [if_pos hrw,if_neg hdl,HNW.out,if_pos hof]
     have x0:=S.y11.cell 0 _ rfl
     have x1:=S.y11.cell 1 _ rfl
     have x2:=S.y11.cell 2 _ rfl
     have x3:=S.y11.cell 3 _ rfl
     have x4:=S.y11.cell 4 _ rfl
     have x5:=S.y11.cell 5 _ rfl
     have x6:=S.y11.cell 6 _ rfl
     have r0:=S.y6.cell 0 _ rfl
     have r1:=S.y6.cell 1 _ rfl
     have r2:=S.y6.cell 2 _ rfl
     have r3:=S.y6.cell 3 _ rfl
     have r4:=S.y6.cell 4 _ rfl
     have r5:=S.y6.cell 5 _ rfl
     have r6:=S.y6.cell 6 _ rfl
     have f0:=S.y6.free 0 (by simp)
     have f1:=S.y6.free 1 (by simp)
     have f2:=S.y6.free 2 (by simp)
     have f3:=S.y6.free 3 (by simp)
     have f4:=S.y6.free 4 (by simp)
     have f5:=S.y6.free 5 (by simp)
     have f6:=S.y6.free 6 (by simp)
     have HYS:=hide (S.y6.set7b (v0:=.int .u64 (id1.toNat:Int)) (v1:=.int .u64 (nw.id.toNat:Int)) (v2:=.int .u64 (nw.seq.toNat:Int)) (v3:=.int .u64 (nw.off.toNat:Int)) (v4:=.int .u64 (tm.toNat:Int)) (v5:=.int .u32 (sh.toNat:Int)) (v6:=.slice none 0 0))
     have HG:=hide (S.early (Q:=fun k => ¬ M k) (r:=s.draft c.t d sh) (Nat.le_of_lt H6.out) (er:=220) (draft_e0 hd0 (by decide)) (by decide) (i0:=id1) (i1:=nw.id) (i2:=nw.seq) (i3:=nw.off) (i4:=tm) (i5:=sh) (A6:=none) (n6:=0) (c6:=0))
     clear S hd0
     simp only [hnr]
     clear hrw hnr
     go_wp2_with fail
     refine bodyPost_ret (ret_sn3 (b:=b6) rfl _ _ rfl HYS.out) rfl ?_
     exact HG.out
    ·have HD0:=hide (show draft0 c.t d = 0 by unfold draft0;rw [if_pos hrw,if_neg hdl,HNW.out,if_neg hof])
     simp only [hnr]
     have HRW:=hide hrw
     clear hrw hnr
     go_upto_region 9 with fail
     have hsq:nw.seq + 1 = sq:=by rw [← HSO.out.1];unfold sn1;rw [if_neg (by rw [HRW.out];simp)]
     have hofe:d.off = of_:=by rw [← HSO.out.2];unfold sn1;rw [if_neg (by rw [HRW.out];simp)]
     rw [hofe] at dd4
     have hinc:IntKind.u64.wrap ((nw.seq.toNat:Int) + 1) = (sq.toNat:Int):=by rw [← hsq];exact u64_next _
     have HSQ:=hide hsq
     clear hsq hofe
     have p2:=S.y11.free 2 (by simp)
     have p3:=S.y11.free 3 (by simp)
     have x2:=S.y11.cell 2 _ rfl
     have x3:=S.y11.cell 3 _ rfl
     clear S
     go_region
     have HL11:Hid (w.heap.size ≤ b6):=hide (Nat.le_of_lt H6.out)
     have S7:=(HS.out.two (sq:=sq) (of_:=of_) HN.out HL11.out).drew
     have hb7:Below b11 w6 (((w6.setCell ⟨b11,2,none⟩ (.int .u64 (sq.toNat:Int))).setCell ⟨b11,3,none⟩ (.int .u64 (of_.toNat:Int))).drew):=(((Below.refl b11 w6).setCell (p:=⟨b11,2,none⟩) (Nat.le_refl _) _).setCell (p:=⟨b11,3,none⟩) (Nat.le_refl _) _).drew
     generalize ((w6.setCell ⟨b11,2,none⟩ (.int .u64 (sq.toNat:Int))).setCell ⟨b11,3,none⟩ (.int .u64 (of_.toNat:Int))).drew = w7 at *
     clear x2 x3 p2 p3 n2 dd0 dd3 dd4 hinc
     have halm:al.length ≤ 1000000:=HD.out.an
     go_wp2_with fail
     go_loopw [69] (fun iv wr => ∃ k:Nat,iv = .int .i64 (k:Int) ∧ k ≤ al.length ∧ Hid (DrS w wr d nw id1 sq of_ tm sh b4 b6 b9 b11 fA fc aA al.length ac dA dc mA mc gA gc (halfE sq k al)) ∧ Below b11 w6 wr) (fun iv _ => al.length - (intOf iv).toNat)
     case atStart => exact ⟨0,rfl,Nat.zero_le _,hide S7,hb7⟩
     case round =>
      clear S7 hb7
      obtain ⟨k,rfl,hk,HSk,hbk⟩:=hrel
      by_cases hlt:k < al.length
      ·have hk2:k < (halfE sq k al).length:=by rw [half_len];exact hlt
       have hads:=HSk.out.ads
       obtain ⟨g,cap,hgq,hgb,_⟩:=hads.form (by omega)
       injection hgq with hg1 _ hg2
       subst hg1
       have hgg:b11 < g:=HN.out.ads g rfl
       obtain ⟨f0,f1,f2,f3,f4,f5⟩:=own_el hads rfl hk2
       have r2:=own_free hads (k * 6 + 2)
       have x2:=HSk.out.y11.cell 2 _ rfl
       have O7:=own_set1 hads (k * 6 + 2) (.int .u64 (sq.toNat:Int))
       rw [els_seq sq _ k hk2,half_get hlt,half_set hlt] at O7
       have HO7:=hide O7
       clear O7 hads f0 f1 f3 f4 f5 hg2 hgb
       go_wp2_with fail
       go_roundw
       case rel =>
        refine ⟨k + 1,by go_num,hlt,hide (HSk.out.moveG (l2:=halfE sq (k + 1) al) (by rw [half_len];exact HN.out) HL11.out hgg ((Oth.refl g wr).set (k * 6 + 2) _) ?_),hbk.setCell (p:=⟨g,k * 6 + 2,none⟩) (Nat.le_of_lt hgg) _⟩
        have h:=HO7.out
        rw [half_len] at h ⊢
        exact h
       case measure => simp [intOf];omega
      ·have hke:k = al.length:=by omega
       have HSE:Hid (DrS w wr d nw id1 sq of_ tm sh b4 b6 b9 b11 fA fc aA al.length ac dA dc mA mc gA gc (as1 nw d al)):=hide (by
        have h:=HSk.out
        have e:halfE sq k al = as1 nw d al:=by unfold as1;rw [if_neg (by rw [HRW.out];simp),hke,half_all,HSQ.out]
        rw [e] at h
        exact h)
       clear hke HSk
       go_wp2_with fail
       go_meet
       exact ⟨rfl,rfl,HD0,HSE.out,hbk⟩
  ·replace hrw:d.rew = true:=by simpa using hrw
   have hnr:(!d.rew) = false:=by rw [hrw];rfl
   have HRW:=hide hrw
   rw [hrw] at dd0
   simp only [hnr]
   clear hrw hnr
   by_cases hth:th = false
   ·have hnt:(!th) = true:=by rw [hth];rfl
    have hd0:draft0 c.t d = 150:=by unfold draft0;rw [if_neg (by rw [HRW.out];simp),if_neg (by have h:=HTH.out;rw [hth] at h;simpa using h)]
    clear hth
    have x0:=S.y11.cell 0 _ rfl
    have x1:=S.y11.cell 1 _ rfl
    have x2:=S.y11.cell 2 _ rfl
    have x3:=S.y11.cell 3 _ rfl
    have x4:=S.y11.cell 4 _ rfl
    have x5:=S.y11.cell 5 _ rfl
    have x6:=S.y11.cell 6 _ rfl
    have r0:=S.y6.cell 0 _ rfl
    have r1:=S.y6.cell 1 _ rfl
    have r2:=S.y6.cell 2 _ rfl
    have r3:=S.y6.cell 3 _ rfl
    have r4:=S.y6.cell 4 _ rfl
    have r5:=S.y6.cell 5 _ rfl
    have r6:=S.y6.cell 6 _ rfl
    have f0:=S.y6.free 0 (by simp)
    have f1:=S.y6.free 1 (by simp)
    have f2:=S.y6.free 2 (by simp)
    have f3:=S.y6.free 3 (by simp)
    have f4:=S.y6.free 4 (by simp)
    have f5:=S.y6.free 5 (by simp)
    have f6:=S.y6.free 6 (by simp)
    have HYS:=hide (S.y6.set7b (v0:=.int .u64 (id1.toNat:Int)) (v1:=.int .u64 (nw.id.toNat:Int)) (v2:=.int .u64 (nw.seq.toNat:Int)) (v3:=.int .u64 (nw.off.toNat:Int)) (v4:=.int .u64 (tm.toNat:Int)) (v5:=.int .u32 (sh.toNat:Int)) (v6:=.slice none 0 0))
    have HG:=hide (S.early (Q:=fun k => ¬ M k) (r:=s.draft c.t d sh) (Nat.le_of_lt H6.out) (er:=150) (draft_e0 hd0 (by decide)) (by decide) (i0:=id1) (i1:=nw.id) (i2:=nw.seq) (i3:=nw.off) (i4:=tm) (i5:=sh) (A6:=none) (n6:=0) (c6:=0))
    clear S hd0
    go_wp2_with fail
    refine bodyPost_ret (ret_sn3 (b:=b6) rfl _ _ rfl HYS.out) rfl ?_
    exact HG.out
   ·have hnt:(!th) = false:=by simpa using hth
    have HD0:Hid (draft0 c.t d = 0):=hide (by unfold draft0;rw [if_neg (by rw [HRW.out];simp),if_pos (by have h:=HTH.out;have q:th = true:=(by simpa using hth);rw [q] at h;exact (of_decide_eq_true h))])
    have HSE:Hid (DrS w w6 d nw id1 sq of_ tm sh b4 b6 b9 b11 fA fc aA al.length ac dA dc mA mc gA gc (as1 nw d al)):=hide (by
     have e:as1 nw d al = al:=by unfold as1;rw [if_pos HRW.out]
     have e1:sn1 nw d sh = sn0 nw d sh:=by unfold sn1;rw [if_pos HRW.out]
     have e2:sq = nw.seq:=by rw [← HSO.out.1,e1];rfl
     have e3:of_ = nw.off:=by rw [← HSO.out.2,e1];rfl
     rw [e,e2,e3]
     exact HS.out)
    clear hth S
    go_wp2_with fail
    go_meet
    exact ⟨rfl,rfl,HD0,HSE.out,Below.refl _ _⟩
 case rest =>
  obtain ⟨rfl,rfl,HD0,Sc,hbc⟩:=hcut
  obtain ⟨W1,rfl⟩:∃ W1:World,W1 = wc:=⟨_,rfl⟩
  have HSC:=hide Sc
  have hzc:b11 < W1.heap.size:=Sc.y11.z
  have Ec:=HE.out.low Sc.b
  have kc:=(hbc.cell (p:=⟨cb,0,none⟩) (show cb < b11 by have:=H46.out;have:=HN.out.l69;have:=HN.out.l911;omega)).trans k6
  have hmr:RdQ W1 (fun k => ¬ M k) 1 mA nw.ms.length mc (strsV nw.ms):=.own Sc.mo fun k hk _ q => by have:=HE.out.lt k q;omega
  have hnm:=HX.out.2.2.2.1
  rw [HNW.out] at hnm
  have hen:=catEntries M W1 sb mb cb K s Ec kc (Nat.lt_of_lt_of_le hcz Sc.b.size) nw mA mc hmr hnm.1 hnm.2
  have hel:=entries_len s nw.ms
  have he8:=hnm.1
  have n0:=Sc.y9.cell 0 _ rfl
  have n1:=Sc.y9.cell 1 _ rfl
  have n2:=Sc.y9.cell 2 _ rfl
  have n3:=Sc.y9.cell 3 _ rfl
  have n4:=Sc.y9.cell 4 _ rfl
  have n5:=Sc.y9.cell 5 _ rfl
  have n6:=Sc.y9.cell 6 _ rfl
  obtain ⟨r,hr⟩:∃ r,s.entries nw.ms = r:=⟨_,rfl⟩
  rw [hr] at hen hel
  obtain ⟨old,e7⟩:=r
  dsimp only at hel
  have HR:=hide hr
  clear hr hmr hnm Ec Sc hbc dd0 dd3 dd4
  go_wp2_with fail
  refine hen.mono ?_
  rintro e w7 ⟨oA,oc,out,rfl,hO,hop,hb7⟩
  dsimp only at hop ⊢
  clear hen kc n0 n1 n2 n3 n4 n5 n6
  have S7:=HSC.out.keep hb7
  by_cases h0:e7 = 0
  ·have t89:((e7:Int) != 0) = false:=by rw [h0];rfl
   have HR2:=hide (draft_on (sh:=sh) (old:=old) HD0.out (by rw [HNW.out,HR.out,h0]))
   clear h0
   have hdl1:=HD.out.dn
   have dd3:=S7.yd.cell 3 _ rfl
   have hol:out.length ≤ 512:=by rw [← hop,List.length_map] at hel;omega
   have HO:=hide (And.intro hO hop)
   have Hb7:=hide hb7
   clear S7 hO hop hel hb7
   go_upto_region 20 with fail
   clear t89
   go_wp2_with fail
   go_loopw [7,8,95] (fun v7 v8 iv wr => v7 = .slice none 0 0 ∧ v8 = .int .i64 0 ∧ ∃ i:Nat,iv = .int .i64 (i:Int) ∧ i ≤ d.drops.length ∧ Hid (∀ j,j < i → hasEn old (d.drops.getD j default) = true) ∧ Below w7.heap.size w7 wr) (fun _ _ iv _ => d.drops.length - (intOf iv).toNat)
   case atStart => exact ⟨rfl,rfl,0,rfl,Nat.zero_le _,hide (fun j hj => by omega),Below.refl _ _⟩
   case round =>
    obtain ⟨rfl,rfl,i,rfl,hi,hall,hbr⟩:=hrel
    have hbcr:=below_call Hb7.out Hb7.out.size hbr
    have Sr:=HSC.out.keep hbcr
    have hOr:=HO.out.1.keep hbr
    clear dd3
    have dd3:=Sr.yd.cell 3 _ rfl
    by_cases hlt:i < d.drops.length
    ·obtain ⟨nm,hnm⟩:∃ nm,d.drops.getD i default = nm:=⟨_,rfl⟩
     have hnk:d.drops[i]? = some nm:=by rw [← hnm,List.getD_eq_getElem?_getD,List.getElem?_eq_getElem hlt];rfl
     obtain ⟨b,off,rfl,hb,hc⟩:=(HD.out.dr.low Sr.b).rd.at_ (by omega)
     have hcell:=hc i (.string nm) (by unfold strsV;rw [List.getElem?_map,hnk];rfl)
     have hbA:=(Below.refl wr.heap.size wr).alloc (Nat.le_refl _) (.cells #[.string nm] 9)
     have y17:=boxN_new wr #[.string nm] 9
     have c17:=y17.cell 0 _ rfl
     have hcon:=containsEl _ out.length oc oA out (rd_own (hOr.keep hbA).own) (by omega) 96 #[.pointer (some ⟨wr.heap.size,0,none⟩)] _ enter96 (predNm _ wr.heap.size nm y17.z c17)
     rw [any_el HO.out.2 nm] at hcon
     have HBA:=hide (below_call hbr hbr.size hbA)
     have HNM:=hide (And.intro hnk hnm)
     clear hc hb hnk hnm Sr hOr c17 y17 hbA
     cases hq:hasEn old nm with
     | true =>
       rw [hq] at hcon
       have HQ:=hide hq
       clear hq
       go_wp2_with fail
       refine hcon.mono ?_
       rintro e w9 ⟨rfl,hb9⟩
       clear hcon hcell
       have hb10:=below_call HBA.out HBA.out.size hb9
       go_wp2_with fail
       go_roundw
       case rel =>
        refine ⟨rfl,rfl,i + 1,by go_num,hlt,hide (fun j hj => ?_),hb10⟩
        by_cases e:j = i
        ·rw [e,HNM.out.2];exact HQ.out
        ·exact hall.out j (by omega)
       case measure => simp [intOf];omega
     | false =>
       rw [hq] at hcon
       have HDR:=hide (dr1_drop (t:=c.t) (sh:=sh) (old:=old) (d:=d) (all_not (List.mem_of_getElem? HNM.out.1) hq))
       clear hq
       go_wp2_with fail
       refine hcon.mono ?_
       rintro e w9 ⟨rfl,hb9⟩
       clear hcon hcell dd3
       have hb10:=below_call HBA.out HBA.out.size hb9
       have S9:=HSC.out.keep (below_call Hb7.out Hb7.out.size hb10)
       clear hb9 hb10
       have x0:=S9.y11.cell 0 _ rfl
       have x1:=S9.y11.cell 1 _ rfl
       have x2:=S9.y11.cell 2 _ rfl
       have x3:=S9.y11.cell 3 _ rfl
       have x4:=S9.y11.cell 4 _ rfl
       have x5:=S9.y11.cell 5 _ rfl
       have x6:=S9.y11.cell 6 _ rfl
       have r0:=S9.y6.cell 0 _ rfl
       have r1:=S9.y6.cell 1 _ rfl
       have r2:=S9.y6.cell 2 _ rfl
       have r3:=S9.y6.cell 3 _ rfl
       have r4:=S9.y6.cell 4 _ rfl
       have r5:=S9.y6.cell 5 _ rfl
       have r6:=S9.y6.cell 6 _ rfl
       have f0:=S9.y6.free 0 (by simp)
       have f1:=S9.y6.free 1 (by simp)
       have f2:=S9.y6.free 2 (by simp)
       have f3:=S9.y6.free 3 (by simp)
       have f4:=S9.y6.free 4 (by simp)
       have f5:=S9.y6.free 5 (by simp)
       have f6:=S9.y6.free 6 (by simp)
       have HYS:=hide (S9.y6.set7b (v0:=.int .u64 (id1.toNat:Int)) (v1:=.int .u64 (nw.id.toNat:Int)) (v2:=.int .u64 (sq.toNat:Int)) (v3:=.int .u64 (of_.toNat:Int)) (v4:=.int .u64 (tm.toNat:Int)) (v5:=.int .u32 (sh.toNat:Int)) (v6:=.slice none 0 0))
       have HG:=hide (S9.early (Q:=fun k => ¬ M k) (r:=s.draft c.t d sh) (Nat.le_of_lt H6.out) (er:=150) (by rw [HR2.out,HDR.out]) (by decide) (i0:=id1) (i1:=nw.id) (i2:=sq) (i3:=of_) (i4:=tm) (i5:=sh) (A6:=none) (n6:=0) (c6:=0))
       clear S9
       go_wp2_with fail
       refine bodyPost_ret (ret_sn3 (b:=b6) rfl _ _ rfl HYS.out) rfl ?_
       exact HG.out
    ·have HALL:=hide (all_idx (l:=d.drops) (p:=fun n => hasEn old n) (fun j hj => hall.out j (by omega)))
     have Hbr:=hide hbr
     have HSR:=hide Sr
     have HOR:=hide hOr
     have dd0:=Sr.yd.cell 0 _ rfl
     have n2:=Sr.y9.cell 2 _ rfl
     have HAR:=hide (rd_own Sr.ads)
     have hz9:=Sr.y9.z
     clear hall hbr hbcr Sr hOr
     go_upto_region 26 with fail
     go_cut [111] from 105 to 142 (fun v wx => v = .bool (d.rew && (d.adds.any fun x => decide (nw.seq.toNat < x.seq.toNat))) ∧ Below wr.heap.size wr wx)
     case first =>
      by_cases hrw:d.rew = false
      ·rw [hrw] at dd0
       have HRW:=hide hrw
       clear hrw
       go_wp2_with fail
       go_meet
       exact ⟨by rw [HRW.out];rfl,Below.refl _ _⟩
      ·replace hrw:d.rew = true:=by simpa using hrw
       have hal:as1 nw d al = al:=by unfold as1;rw [if_pos hrw]
       have hcon:=containsEl wr al.length gc gA al (by have h:=HAR.out;rw [hal] at h;exact h) HD.out.an 97 #[.pointer (some ⟨b9,0,none⟩)] _ enter97 (predSeq wr b9 nw.seq hz9 n2)
       rw [any_seq HD.out.e] at hcon
       have hll:((as1 nw d al).length:Int) = (al.length:Int):=by rw [hal]
       generalize hq:(d.adds.any fun x => decide (nw.seq.toNat < x.seq.toNat)) = q at *
       clear hq
       rw [hrw] at dd0
       have HRW:=hide hrw
       clear hal hrw
       go_wp2_with fail
       refine hcon.mono ?_
       rintro e w9 ⟨rfl,hb9⟩
       go_wp2_with fail
       go_meet
       exact ⟨by rw [HRW.out];rfl,hb9⟩
     case rest =>
      obtain ⟨rfl,hbx⟩:=hcut
      have hb8:=below_call (below_call Hb7.out Hb7.out.size Hbr.out) (Nat.le_trans Hb7.out.size Hbr.out.size) hbx
      have S8:=HSC.out.keep hb8
      have hO8:=HOR.out.keep hbx
      obtain ⟨qb,hqb⟩:∃ qb,(d.rew && (d.adds.any fun x => decide (nw.seq.toNat < x.seq.toNat))) = qb:=⟨_,rfl⟩
      rw [hqb]
      clear dd0 n2 dd3 hbx
      have x0:=S8.y11.cell 0 _ rfl
      cases qb with
      | true =>
        have HDR:=hide (dr1_seq (t:=c.t) (sh:=sh) (old:=old) HALL.out (by rw [HNW.out];simpa using hqb))
        clear hqb hO8 x0
        have x0:=S8.y11.cell 0 _ rfl
        have x1:=S8.y11.cell 1 _ rfl
        have x2:=S8.y11.cell 2 _ rfl
        have x3:=S8.y11.cell 3 _ rfl
        have x4:=S8.y11.cell 4 _ rfl
        have x5:=S8.y11.cell 5 _ rfl
        have x6:=S8.y11.cell 6 _ rfl
        have r0:=S8.y6.cell 0 _ rfl
        have r1:=S8.y6.cell 1 _ rfl
        have r2:=S8.y6.cell 2 _ rfl
        have r3:=S8.y6.cell 3 _ rfl
        have r4:=S8.y6.cell 4 _ rfl
        have r5:=S8.y6.cell 5 _ rfl
        have r6:=S8.y6.cell 6 _ rfl
        have f0:=S8.y6.free 0 (by simp)
        have f1:=S8.y6.free 1 (by simp)
        have f2:=S8.y6.free 2 (by simp)
        have f3:=S8.y6.free 3 (by simp)
        have f4:=S8.y6.free 4 (by simp)
        have f5:=S8.y6.free 5 (by simp)
        have f6:=S8.y6.free 6 (by simp)
        have HYS:=hide (S8.y6.set7b (v0:=.int .u64 (id1.toNat:Int)) (v1:=.int .u64 (nw.id.toNat:Int)) (v2:=.int .u64 (sq.toNat:Int)) (v3:=.int .u64 (of_.toNat:Int)) (v4:=.int .u64 (tm.toNat:Int)) (v5:=.int .u32 (sh.toNat:Int)) (v6:=.slice none 0 0))
        have HG:=hide (S8.early (Q:=fun k => ¬ M k) (r:=s.draft c.t d sh) (Nat.le_of_lt H6.out) (er:=1) (by rw [HR2.out,HDR.out]) (by decide) (i0:=id1) (i1:=nw.id) (i2:=sq) (i3:=of_) (i4:=tm) (i5:=sh) (A6:=none) (n6:=0) (c6:=0))
        clear S8
        go_wp2_with fail
        refine bodyPost_ret (ret_sn3 (b:=b6) rfl _ _ rfl HYS.out) rfl ?_
        exact HG.out
      | false =>
        have HNS:Hid (¬ (d.rew = true ∧ (d.adds.any fun x => decide (c.t.now.seq.toNat < x.seq.toNat)) = true)):=hide (by
         rw [HNW.out]
         rintro ⟨q1,q2⟩
         rw [q1,q2] at hqb
         cases hqb)
        have HI1:Hid ((sn1 c.t.now d sh).id = id1):=hide (by rw [HNW.out,(sn1_parts nw d sh).1];exact HIT.out.1)
        clear hqb
        by_cases hbig:1073741824 < id1.toNat
        ·have t115:decide ((1073741824:Int) < (id1.toNat:Int)) = true:=decide_eq_true (by omega)
         have HDR:=hide (dr1_id (t:=c.t) (sh:=sh) (old:=old) HALL.out HNS.out (by rw [HI1.out];exact hbig))
         clear hbig hO8 x0
         have x0:=S8.y11.cell 0 _ rfl
         have x1:=S8.y11.cell 1 _ rfl
         have x2:=S8.y11.cell 2 _ rfl
         have x3:=S8.y11.cell 3 _ rfl
         have x4:=S8.y11.cell 4 _ rfl
         have x5:=S8.y11.cell 5 _ rfl
         have x6:=S8.y11.cell 6 _ rfl
         have r0:=S8.y6.cell 0 _ rfl
         have r1:=S8.y6.cell 1 _ rfl
         have r2:=S8.y6.cell 2 _ rfl
         have r3:=S8.y6.cell 3 _ rfl
         have r4:=S8.y6.cell 4 _ rfl
         have r5:=S8.y6.cell 5 _ rfl
         have r6:=S8.y6.cell 6 _ rfl
         have f0:=S8.y6.free 0 (by simp)
         have f1:=S8.y6.free 1 (by simp)
         have f2:=S8.y6.free 2 (by simp)
         have f3:=S8.y6.free 3 (by simp)
         have f4:=S8.y6.free 4 (by simp)
         have f5:=S8.y6.free 5 (by simp)
         have f6:=S8.y6.free 6 (by simp)
         have HYS:=hide (S8.y6.set7b (v0:=.int .u64 (id1.toNat:Int)) (v1:=.int .u64 (nw.id.toNat:Int)) (v2:=.int .u64 (sq.toNat:Int)) (v3:=.int .u64 (of_.toNat:Int)) (v4:=.int .u64 (tm.toNat:Int)) (v5:=.int .u32 (sh.toNat:Int)) (v6:=.slice none 0 0))
         have HG:=hide (S8.early (Q:=fun k => ¬ M k) (r:=s.draft c.t d sh) (Nat.le_of_lt H6.out) (er:=6) (by rw [HR2.out,HDR.out]) (by decide) (i0:=id1) (i1:=nw.id) (i2:=sq) (i3:=of_) (i4:=tm) (i5:=sh) (A6:=none) (n6:=0) (c6:=0))
         clear S8
         go_wp2_with fail
         refine bodyPost_ret (ret_sn3 (b:=b6) rfl _ _ rfl HYS.out) rfl ?_
         exact HG.out
        ·have t115:decide ((1073741824:Int) < (id1.toNat:Int)) = false:=decide_eq_false (by omega)
         have HNB:Hid (¬ 1073741824 < (sn1 c.t.now d sh).id.toNat):=hide (by rw [HI1.out];exact hbig)
         have hdl:=deleteAny wc W1.heap.size oc oA out hO8 hb8.size (by omega) 99 #[.pointer (some ⟨b4,0,none⟩)] (fun x => nmIn d.drops x.p.name) enter99 (fun g hg => predDropE wc b4 g w.heap.size d.drops.length dc dA d.drops S8.yd.z (by have:=HSC.out.yd.z;omega) (S8.yd.cell 3 _ rfl) (fun W hoth => ((HD.out.dr.rd.below S8.b)).keep (fun p hp => hoth.cell (Nat.lt_of_lt_of_le hp S8.b.size) (by have:=HSC.out.b.size;omega))) HD.out.dn)
         clear hbig
         have HB8:=hide hb8
         clear S8 hO8 hb8
         go_wp2_with fail
         refine hdl.mono ?_
         rintro e w9 ⟨A2,c2,rfl,hO9,g9,hg9,hoth9⟩
         have hfl:(out.filter fun x => !nmIn d.drops x.p.name).length ≤ out.length:=List.length_filter_le _ _
         have HFP:=hide (filt_p HO.out.2 d.drops)
         obtain ⟨l2,hl2⟩:∃ l2,(out.filter fun x => !nmIn d.drops x.p.name) = l2:=⟨_,rfl⟩
         have HAL:=hide (all1_len (nw:=nw) HO.out.2 HD.out.e)
         rw [hl2] at hO9 hfl HFP HAL ⊢
         have hb9:=HB8.out.trans (hoth9.belowB hg9 HB8.out.size)
         have HB9:=hide hb9
         have HO9:=hide hO9
         have S9:=HSC.out.keep hb9
         have hra:Rd w9 w9.heap.size 6 gA al.length gc (elsV (as1 nw d al)):=by have h:=rd_own S9.ads;rw [as1_len] at h;exact h
         have hown:=hO9.own
         have han:=HD.out.an
         have hz9:=hb9.size
         clear hdl x0 t115 hoth9 hg9 hO9 hb9 S9 hl2
         go_upto_region 32 with (at_builtin;refine wpList_app _ tyEls rfl (.tmp 120) (.tmp 121) rfl W1.heap.size _ l2.length (elsV l2) rfl hown w9.heap.size _ al.length gc (elsV (as1 nw d al)) rfl hra (els_one _) (by omega) hz9 ?_;intro v10 w10 hown10 hg10 _;obtain ⟨A10,c10,rfl⟩:=own_slice hown10;obtain ⟨n10,hn10⟩:∃ n,l2.length + al.length = n:=⟨_,rfl⟩;rw [hn10] at hown10 ⊢;have HN10:=hide hn10;have HW10:=hide (And.intro hown10 hg10);have hn10b:n10 ≤ 2000000:=(by omega);clear hown10 hg10 hn10 hown hra)
         have hb10:=HB9.out.trans (below_app (Below.refl W1.heap.size w9) (Nat.le_refl _) HO9.out.own HW10.out.2 HB9.out.size)
         have S10:=HSC.out.keep hb10
         by_cases h64:64 < n10
         ·have t125:decide ((64:Int) < (n10:Int)) = true:=decide_eq_true (by omega)
          have HDR:=hide (dr1_full (t:=c.t) (sh:=sh) (old:=old) HALL.out HNS.out HNB.out (by rw [HNW.out,HAL.out,HN10.out];exact h64))
          clear h64 hb10
          have x0:=S10.y11.cell 0 _ rfl
          have x1:=S10.y11.cell 1 _ rfl
          have x2:=S10.y11.cell 2 _ rfl
          have x3:=S10.y11.cell 3 _ rfl
          have x4:=S10.y11.cell 4 _ rfl
          have x5:=S10.y11.cell 5 _ rfl
          have x6:=S10.y11.cell 6 _ rfl
          have r0:=S10.y6.cell 0 _ rfl
          have r1:=S10.y6.cell 1 _ rfl
          have r2:=S10.y6.cell 2 _ rfl
          have r3:=S10.y6.cell 3 _ rfl
          have r4:=S10.y6.cell 4 _ rfl
          have r5:=S10.y6.cell 5 _ rfl
          have r6:=S10.y6.cell 6 _ rfl
          have f0:=S10.y6.free 0 (by simp)
          have f1:=S10.y6.free 1 (by simp)
          have f2:=S10.y6.free 2 (by simp)
          have f3:=S10.y6.free 3 (by simp)
          have f4:=S10.y6.free 4 (by simp)
          have f5:=S10.y6.free 5 (by simp)
          have f6:=S10.y6.free 6 (by simp)
          have HYS:=hide (S10.y6.set7b (v0:=.int .u64 (id1.toNat:Int)) (v1:=.int .u64 (nw.id.toNat:Int)) (v2:=.int .u64 (sq.toNat:Int)) (v3:=.int .u64 (of_.toNat:Int)) (v4:=.int .u64 (tm.toNat:Int)) (v5:=.int .u32 (sh.toNat:Int)) (v6:=.slice none 0 0))
          have HG:=hide (S10.early (Q:=fun k => ¬ M k) (r:=s.draft c.t d sh) (Nat.le_of_lt H6.out) (er:=4) (by rw [HR2.out,HDR.out]) (by decide) (i0:=id1) (i1:=nw.id) (i2:=sq) (i3:=of_) (i4:=tm) (i5:=sh) (A6:=none) (n6:=0) (c6:=0))
          clear S10
          go_upto_region 33 with fail
          iterate 18 (first | go_values | go_skip | go_guarded | go_step | go_upon | go_back | skip)
          change bodyPost _ _ _ _ _ _
          refine bodyPost_ret (ret_sn3 (b:=b6) rfl _ _ rfl HYS.out) rfl ?_
          exact HG.out
         ·have t125:decide ((64:Int) < (n10:Int)) = false:=decide_eq_false (by omega)
          have HN64:Hid (¬ 64 < (all1 c.t.now d old).length):=hide (by rw [HNW.out,HAL.out,HN10.out];exact h64)
          have dd0:=S10.yd.cell 0 _ rfl
          have n6:=S10.y9.cell 6 _ rfl
          have HP:=hide (sn1_parts nw d sh)
          have HQ:Hid (∀ k,w.heap.size ≤ k → ¬ M k):=hide fun k hk q => by have:=HE.out.lt k q;omega
          have hm8:=he8
          clear h64 hb10 he8
          by_cases hfew:d.rew = false ∧ nw.ms.length < 8
          ·have HDR:=hide (dr1_few (t:=c.t) (sh:=sh) (old:=old) HALL.out HNS.out HNB.out HN64.out (by rw [HNW.out];exact hfew))
           rw [hfew.1] at dd0
           have t134:decide ((nw.ms.length:Int) < 8) = true:=decide_eq_true (by have:=hfew.2;omega)
           have HFW:=hide hfew
           clear hfew
           have p6:=S10.y11.free 6 (by simp)
           have x6:=S10.y11.cell 6 _ rfl
           have hn611:b11 ≠ b6:=by have:=HN.out.l69;have:=HN.out.l911;omega
           have HYS:=hide ((S10.y6.else (p:=⟨b11,6,none⟩) hn611 (.slice mA nw.ms.length mc)).set7b (v0:=.int .u64 (id1.toNat:Int)) (v1:=.int .u64 (nw.id.toNat:Int)) (v2:=.int .u64 (sq.toNat:Int)) (v3:=.int .u64 (of_.toNat:Int)) (v4:=.int .u64 (tm.toNat:Int)) (v5:=.int .u32 (sh.toNat:Int)) (v6:=.slice mA nw.ms.length mc))
           have HG:Hid (DrEnd w (fun k => ¬ M k) (s.draft c.t d sh) (.returned (.tuple #[.agg #[.int .u64 (id1.toNat:Int),.int .u64 (nw.id.toNat:Int),.int .u64 (sq.toNat:Int),.int .u64 (of_.toNat:Int),.int .u64 (tm.toNat:Int),.int .u32 (sh.toNat:Int),.slice mA nw.ms.length mc],.slice gA al.length gc,.int .i64 0])) (set7b (w10.setCell ⟨b11,6,none⟩ (.slice mA nw.ms.length mc)) b6 (.int .u64 (id1.toNat:Int)) (.int .u64 (nw.id.toNat:Int)) (.int .u64 (sq.toNat:Int)) (.int .u64 (of_.toNat:Int)) (.int .u64 (tm.toNat:Int)) (.int .u32 (sh.toNat:Int)) (.slice mA nw.ms.length mc))):=hide (by
            have h:=S10.few (Q:=fun k => ¬ M k) (r:=s.draft c.t d sh) (sn := { sn1 nw d sh with ms:=nw.ms }) (es:=adds1 nw d) (by rw [as1_len];exact HN.out) (Nat.le_of_lt H6.out) HQ.out (as1_ins HD.out.a.ins) (by rw [HR2.out,HDR.out,HNW.out]) (as1_p HD.out.e) (HP.out.1.trans HIT.out.1) HP.out.2.1 HSO.out.1 HSO.out.2 (HP.out.2.2.1.trans HIT.out.2) HP.out.2.2.2.1 rfl
            rw [as1_len] at h
            exact h)
           have y11q:=S10.y11.set (j:=6) (.slice mA nw.ms.length mc) rfl
           have y6q:=S10.y6.else (p:=⟨b11,6,none⟩) hn611 (.slice mA nw.ms.length mc)
           clear S10
           go_upto_region 36 with fail
           generalize w10.setCell ⟨b11,6,none⟩ (.slice mA nw.ms.length mc) = wq at *
           clear p6 x6 dd0 n6 t134
           have x0:=y11q.cell 0 _ rfl
           have x1:=y11q.cell 1 _ rfl
           have x2:=y11q.cell 2 _ rfl
           have x3:=y11q.cell 3 _ rfl
           have x4:=y11q.cell 4 _ rfl
           have x5:=y11q.cell 5 _ rfl
           have x6:=y11q.cell 6 _ rfl
           have r0:=y6q.cell 0 _ rfl
           have r1:=y6q.cell 1 _ rfl
           have r2:=y6q.cell 2 _ rfl
           have r3:=y6q.cell 3 _ rfl
           have r4:=y6q.cell 4 _ rfl
           have r5:=y6q.cell 5 _ rfl
           have r6:=y6q.cell 6 _ rfl
           have f0:=y6q.free 0 (by simp)
           have f1:=y6q.free 1 (by simp)
           have f2:=y6q.free 2 (by simp)
           have f3:=y6q.free 3 (by simp)
           have f4:=y6q.free 4 (by simp)
           have f5:=y6q.free 5 (by simp)
           have f6:=y6q.free 6 (by simp)
           clear y11q y6q
           iterate 21 (first | go_values | go_skip | go_guarded | go_step | go_upon | go_back | skip)
           change bodyPost _ _ _ _ _ _
           refine bodyPost_ret (ret_sn3 (b:=b6) rfl _ _ rfl HYS.out) rfl ?_
           exact HG.out
          ·have HDR:=hide (dr1_all (t:=c.t) (sh:=sh) (old:=old) HALL.out HNS.out HNB.out HN64.out (by rw [HNW.out];exact hfew))
           have hL:(l2 ++ as1 nw d al).length = n10:=by rw [List.length_append,as1_len];exact HN10.out
           have hins:∀ x ∈ l2 ++ as1 nw d al,RdQ w10 (fun k => (¬ M k) ∧ k ≠ b6) 10 x.A x.p.stats.length x.c (stsV x.p.stats):=fun x hx => by
            rcases List.mem_append.1 hx with hx | hx
            ·refine RdQ.own (own_grown (HO9.out.ins x hx) HO9.out.own HW10.out.2 (by decide)) (fun k hk _ => ⟨HQ.out k (by have:=HSC.out.b.size;omega),?_⟩)
             have:=HN.out.l69;have:=HN.out.l911;have:=H6.out;omega
            ·refine ((as1_ins HD.out.a.ins x hx).imp (Q:=fun k => (¬ M k) ∧ k ≠ b6) fun k hk hl => ⟨hk,by have:=H6.out;omega⟩).low S10.b
           have HG:Hid (DrEnd w (fun k => ¬ M k) (s.draft c.t d sh) (.returned (.tuple #[.agg #[.int .u64 (id1.toNat:Int),.int .u64 (nw.id.toNat:Int),.int .u64 (sq.toNat:Int),.int .u64 (of_.toNat:Int),.int .u64 (tm.toNat:Int),.int .u32 (sh.toNat:Int),.slice none 0 0],.slice A10 n10 c10,.int .i64 0])) (set7b w10 b6 (.int .u64 (id1.toNat:Int)) (.int .u64 (nw.id.toNat:Int)) (.int .u64 (sq.toNat:Int)) (.int .u64 (of_.toNat:Int)) (.int .u64 (tm.toNat:Int)) (.int .u32 (sh.toNat:Int)) (.slice none 0 0))):=hide (by
            have h:=S10.all (Q:=fun k => ¬ M k) (r:=s.draft c.t d sh) (sn:=sn1 nw d sh) (es:=all1 nw d old) (l2:=l2 ++ as1 nw d al) (A:=A10) (k:=c10) (B:=W1.heap.size) (Nat.le_of_lt H6.out) HQ.out HSC.out.b.size (by have:=HN.out.l69;have:=HN.out.l911;omega) (by rw [hL,elsV_app];exact HW10.out.1) hins (by rw [HR2.out,HDR.out,HNW.out]) (by rw [List.map_append,as1_p HD.out.e,HFP.out];rfl) (HP.out.1.trans HIT.out.1) HP.out.2.1 HSO.out.1 HSO.out.2 (HP.out.2.2.1.trans HIT.out.2) HP.out.2.2.2.1 HP.out.2.2.2.2
            rw [hL] at h
            exact h)
           have x0:=S10.y11.cell 0 _ rfl
           have x1:=S10.y11.cell 1 _ rfl
           have x2:=S10.y11.cell 2 _ rfl
           have x3:=S10.y11.cell 3 _ rfl
           have x4:=S10.y11.cell 4 _ rfl
           have x5:=S10.y11.cell 5 _ rfl
           have x6:=S10.y11.cell 6 _ rfl
           have r0:=S10.y6.cell 0 _ rfl
           have r1:=S10.y6.cell 1 _ rfl
           have r2:=S10.y6.cell 2 _ rfl
           have r3:=S10.y6.cell 3 _ rfl
           have r4:=S10.y6.cell 4 _ rfl
           have r5:=S10.y6.cell 5 _ rfl
           have r6:=S10.y6.cell 6 _ rfl
           have f0:=S10.y6.free 0 (by simp)
           have f1:=S10.y6.free 1 (by simp)
           have f2:=S10.y6.free 2 (by simp)
           have f3:=S10.y6.free 3 (by simp)
           have f4:=S10.y6.free 4 (by simp)
           have f5:=S10.y6.free 5 (by simp)
           have f6:=S10.y6.free 6 (by simp)
           have HYS:=hide (S10.y6.set7b (v0:=.int .u64 (id1.toNat:Int)) (v1:=.int .u64 (nw.id.toNat:Int)) (v2:=.int .u64 (sq.toNat:Int)) (v3:=.int .u64 (of_.toNat:Int)) (v4:=.int .u64 (tm.toNat:Int)) (v5:=.int .u32 (sh.toNat:Int)) (v6:=.slice none 0 0))
           have HFW:=hide hfew
           clear S10 hins hL
           by_cases hrw:d.rew = false
           ·have t134:decide ((nw.ms.length:Int) < 8) = false:=decide_eq_false (by have:¬ nw.ms.length < 8:=fun q => hfew ⟨hrw,q⟩;omega)
            rw [hrw] at dd0
            clear hfew hrw
            go_upto_region 37 with fail
            iterate 21 (first | go_values | go_skip | go_guarded | go_step | go_upon | go_back | skip)
            change bodyPost _ _ _ _ _ _
            refine bodyPost_ret (ret_sn3 (b:=b6) rfl _ _ rfl HYS.out) rfl ?_
            exact HG.out
           ·replace hrw:d.rew = true:=by simpa using hrw
            rw [hrw] at dd0
            clear hfew hrw
            go_upto_region 37 with fail
            iterate 21 (first | go_values | go_skip | go_guarded | go_step | go_upon | go_back | skip)
            change bodyPost _ _ _ _ _ _
            refine bodyPost_ret (ret_sn3 (b:=b6) rfl _ _ rfl HYS.out) rfl ?_
            exact HG.out
  ·have t89:((e7:Int) != 0) = true:=by rw [bne_iff_ne];omega
   have x0:=S7.y11.cell 0 _ rfl
   have x1:=S7.y11.cell 1 _ rfl
   have x2:=S7.y11.cell 2 _ rfl
   have x3:=S7.y11.cell 3 _ rfl
   have x4:=S7.y11.cell 4 _ rfl
   have x5:=S7.y11.cell 5 _ rfl
   have x6:=S7.y11.cell 6 _ rfl
   have r0:=S7.y6.cell 0 _ rfl
   have r1:=S7.y6.cell 1 _ rfl
   have r2:=S7.y6.cell 2 _ rfl
   have r3:=S7.y6.cell 3 _ rfl
   have r4:=S7.y6.cell 4 _ rfl
   have r5:=S7.y6.cell 5 _ rfl
   have r6:=S7.y6.cell 6 _ rfl
   have f0:=S7.y6.free 0 (by simp)
   have f1:=S7.y6.free 1 (by simp)
   have f2:=S7.y6.free 2 (by simp)
   have f3:=S7.y6.free 3 (by simp)
   have f4:=S7.y6.free 4 (by simp)
   have f5:=S7.y6.free 5 (by simp)
   have f6:=S7.y6.free 6 (by simp)
   have HYS:=hide (S7.y6.set7b (v0:=.int .u64 (id1.toNat:Int)) (v1:=.int .u64 (nw.id.toNat:Int)) (v2:=.int .u64 (sq.toNat:Int)) (v3:=.int .u64 (of_.toNat:Int)) (v4:=.int .u64 (tm.toNat:Int)) (v5:=.int .u32 (sh.toNat:Int)) (v6:=.slice none 0 0))
   have HG:=hide (S7.early (Q:=fun k => ¬ M k) (r:=s.draft c.t d sh) (Nat.le_of_lt H6.out) (er:=e7) (draft_e1 HD0.out (by rw [HNW.out,HR.out]) h0) h0 (i0:=id1) (i1:=nw.id) (i2:=sq) (i3:=of_) (i4:=tm) (i5:=sh) (A6:=none) (n6:=0) (c6:=0))
   clear S7 hO hop hel hb7 h0
   go_wp2_with fail
   refine bodyPost_ret (ret_sn3 (b:=b6) rfl _ _ rfl HYS.out) rfl ?_
   exact HG.out
end Go.Proofs.YtpfofefecamkfaaGreatDoor
