/- THE WALK of the catalog's Commit: what it publishes. No statement of the seat is proved here; no condition but sizes. -/
import Derived.Test.YtpfofefecamkfaaGreatDoorCtCc
import Derived.IntWalk
import Derived.Deep.RegionHeld3
namespace Go.Proofs.YtpfofefecamkfaaGreatDoor
open Go.RowKit

/-- what a draft left, told by its values -/
def DrX (w w4:World) (Q:Nat → Prop) (g:Nat × Sn × List En) (i0 i1 i2 i3 i4:UInt64) (i5:UInt32) (A6:Option Addr) (n6 c6:Nat) (A4:Option Addr) (n4 k4:Nat):Prop :=
 Below w.heap.size w w4 ∧ (g.1 = 0 → (g.2.1.id = i0 ∧ g.2.1.par = i1 ∧ g.2.1.seq = i2 ∧ g.2.1.off = i3 ∧ g.2.1.tim = i4 ∧ g.2.1.sch = i5 ∧ g.2.1.ms.length = n6) ∧ w4.ownsRow w.heap.size 9 1 (.slice A6 n6 c6) n6 (strsV g.2.1.ms) ∧ ∃ out:List El,out.length = n4 ∧ EnQ w4 Q A4 k4 out ∧ out.map El.p = g.2.2)
theorem i64_nat {a b:UInt64} (h:(Value.int .u64 (a.toNat:Int)) = .int .u64 (b.toNat:Int)):b = a:=by
 injection h with _ h
 exact UInt64.toNat_inj.1 (by omega)
theorem drX_of {w w4:World} {Q:Nat → Prop} {g:Nat × Sn × List En} {i0 i1 i2 i3 i4:UInt64} {i5:UInt32} {A6:Option Addr} {n6 c6:Nat} {A4:Option Addr} {k4:Nat} {out:List El} (hb:Below w.heap.size w.drew w4)
 (h:g.1 = 0 → ∃ mA mc,(#[.int .u64 (i0.toNat:Int),.int .u64 (i1.toNat:Int),.int .u64 (i2.toNat:Int),.int .u64 (i3.toNat:Int),.int .u64 (i4.toNat:Int),.int .u32 (i5.toNat:Int),.slice A6 n6 c6]:Array Value) = #[.int .u64 (g.2.1.id.toNat:Int),.int .u64 (g.2.1.par.toNat:Int),.int .u64 (g.2.1.seq.toNat:Int),.int .u64 (g.2.1.off.toNat:Int),.int .u64 (g.2.1.tim.toNat:Int),.int .u32 (g.2.1.sch.toNat:Int),.slice mA g.2.1.ms.length mc] ∧ w4.ownsRow w.heap.size 9 1 (.slice mA g.2.1.ms.length mc) g.2.1.ms.length (strsV g.2.1.ms) ∧ EnQ w4 Q A4 k4 out ∧ out.map El.p = g.2.2):DrX w w4 Q g i0 i1 i2 i3 i4 i5 A6 n6 c6 A4 out.length k4:=by
 refine ⟨below_of_drew hb,fun h0 => ?_⟩
 obtain ⟨mA,mc,e,ho,hq,hp⟩:=h h0
 simp only [Array.mk.injEq,List.cons.injEq,and_true] at e
 obtain ⟨e0,e1,e2,e3,e4,e5,e6⟩:=e
 injection e6 with e6 e7 e8
 subst e6 e8
 injection e5 with _ e5
 refine ⟨⟨i64_nat e0,i64_nat e1,i64_nat e2,i64_nat e3,i64_nat e4,UInt32.toNat_inj.1 (by omega),e7.symm⟩,by rw [e7];exact ho,out,rfl,hq,hp⟩
set_option maxRecDepth 100000 in
set_option maxHeartbeats 8000000 in
theorem catChange (M:Nat → Prop) (w:World) (b2 b3 bs sb mb cb K:Nat) (s:So) (hE:Env M w sb mb K s) (hK:K ≤ 800010) (c:Ct) (hc:CatR w (fun k => ¬ M k) cb sb c) (hok:c.t.ok) (hMc:M cb) (hMs:M bs) (h1:cb ≠ sb) (h2:cb ≠ mb) (h3:bs ≠ sb) (h4:bs ≠ mb) (hcs:cb ≠ bs)
 (y2:BoxN w b2 [.pointer (some ⟨cb,0,none⟩)]) (n2:¬ M b2) (d:Dr) (fA:Option Addr) (fc:Nat) (aA:Option Addr) (ac:Nat) (al:List El) (dA:Option Addr) (dc:Nat) (y3:BoxN w b3 [.bool d.rew,.slice fA d.fs.length fc,.slice aA al.length ac,.slice dA d.drops.length dc,.int .u64 (d.off.toNat:Int),.int .u64 (d.tim.toNat:Int)]) (n3:¬ M b3) (hd:DrQ w (fun k => ¬ M k) d fA fc aA ac al dA dc) (e0:Nat) (n0:Sn) (hJ:SnJ M bs e0 n0 w) :
 Calls Tryz.prog 41 #[.pointer (some ⟨b2,0,none⟩),.pointer (some ⟨b3,0,none⟩),.pointer (some ⟨bs,0,none⟩)] w (ChgEnd M (fun k => Ms sb mb k ∨ k = bs) (SnJ M bs) w sb mb (K + 2) (chCommit d s c.t)):=by
 have HM:=hide (And.intro hE.m1 (And.intro hE.m2 (And.intro hMc hMs)))
 have hb1:=(Below.refl w.heap.size w).alloc (Nat.le_refl _) (.cells #[.slice none 0 0,.slice none 0 0,.int .u64 0] 39)
 have yr:=boxN_new w #[.slice none 0 0,.slice none 0 0,.int .u64 0] 39
 obtain ⟨br,hbr⟩:∃ b,b = w.heap.size:=⟨_,rfl⟩
 have hE1:=hE.add hb1 (b:=br) (Nat.le_of_eq hbr.symm) (by rw [hbr];exact yr.z)
 have hC1:=hc.add hb1 (b:=br) (Nat.le_of_eq hbr.symm)
 have hD1:=hd.add hb1 (b:=br) (Nat.le_of_eq hbr.symm)
 have hM1:Mst (Ma (fun k => Ms sb mb k ∨ k = bs) br) w _:=Mst.of hb1
 have hJ1:=hJ.keep (N:=fun _ => False) (Mst.of hb1) id (fun _ _ => id)
 have y21:=y2.keep hb1 y2.z
 have y31:=y3.keep hb1 y3.z
 rw [← hbr] at yr
 have HNE:Hid (br ≠ sb ∧ br ≠ mb):=hide ⟨by have:=hE.lt sb hE.m1;omega,by have:=hE.lt mb hE.m2;omega⟩
 have HNS:Hid (bs ≠ br):=hide (by have:=hE.lt bs hMs;omega)
 have HN23:Hid (¬ M b2 ∧ ¬ M b3 ∧ b2 ≠ br ∧ b3 ≠ br):=hide ⟨n2,n3,by have:=y2.z;omega,by have:=y3.z;omega⟩
 have hwz:=hb1.size
 clear hE hc hd hJ y2 y3 n2 n3
 go_enter Tryz.func41,Tryz.ntmps41
 go_upto_region 1 with fail
 rw [← hbr]
 generalize w.alloc (.cells #[.slice none 0 0,.slice none 0 0,.int .u64 0] 39) = w1 at *
 have HB:=hide hbr
 clear hbr
 have a0:=y21.cell 0 _ rfl
 have a1:=y31.cell 1 _ rfl
 have hwd:=catWider (fun k => ¬ Ma M br k) w1 hE1.hP sb cb c hC1 hok d.fs fA fc hD1.f
 have HE1:=hide hE1
 have HC1:=hide hC1
 have HD1:=hide hD1
 have HM1:=hide hM1
 have HJ1:=hide hJ1
 have HYR:=hide yr
 have HY2:=hide y21
 have HY3:=hide y31
 have hz1:=yr.z
 clear hE1 hC1 hD1 hM1 hJ1 yr y21 y31 hb1
 go_wp2_with fail
 refine hwd.mono ?_
 obtain ⟨r,hr⟩:∃ r,wider c.t d.fs = r:=⟨_,rfl⟩
 have hwok:=wider_ok d.fs c.t hok
 rw [hr] at hwok ⊢
 obtain ⟨t,e⟩:=r
 dsimp only at hwok
 rintro e' w2 ⟨sA,sc,ss,nA,nc,ns,rfl,hT,e1,e2,hb2⟩
 dsimp only at e1 e2 ⊢
 clear hwd a0 a1
 have HR:=hide hr
 clear hr
 have hbA:=(Below.refl w2.heap.size w2).alloc (Nat.le_refl _) (.cells #[.slice sA ss.length sc,.slice nA ns.length nc,.int .u64 (t.cur.toNat:Int)] 39)
 have y5:=boxN_new w2 #[.slice sA ss.length sc,.slice nA ns.length nc,.int .u64 (t.cur.toNat:Int)] 39
 have hb3:=below_call hb2 hb2.size hbA
 have HT2:=hide (hT.low hbA)
 have HE2:=hide (HE1.out.low hb3)
 have HC2:=hide (HC1.out.low hb3)
 have HD2:=hide (HD1.out.low hb3)
 have HM2:=hide (HM1.out.trans (Mst.of hb3))
 have HJ2:=hide (HJ1.out.keep (N:=fun _ => False) (Mst.of hb3) id (fun _ _ => id))
 have yr2:=HYR.out.keep hb3 hz1
 have y22:=HY2.out.keep hb3 HY2.out.z
 have y32:=HY3.out.keep hb3 HY3.out.z
 have hz2:w1.heap.size ≤ w2.heap.size:=hb2.size
 clear hT hb2 hbA hb3
 by_cases h0:e = 0
 ·subst h0
  have htok:=hwok rfl
  have hbd:=htok.bd e1 e2
  have hls:=last_map e1 hbd.s1
  go_upto_region 5 with fail
  obtain ⟨rb,ro,hrA,hrz,hs0,_⟩:=HT2.out.s.rd.sl (i:=ss.length - 1) (by have:=hbd.s1;omega)
  obtain ⟨shp,hshp⟩:∃ shp,(ss.getD (ss.length - 1) default).id = shp:=⟨_,rfl⟩
  rw [hshp] at hs0
  have HSH:Hid (t.lastS.1 = shp):=hide (by rw [hls];exact hshp)
  have hix:IntKind.i64.wrap ((ss.length:Int) - 1) = ((ss.length - 1:Nat):Int):=by
   have:=hbd.s1;have:=hbd.s16
   rw [Go.IntWalk.i64_in _ (by omega)]
   omega
  have HBD:=hide (And.intro htok hbd)
  have i0:(0:Int) ≤ ((ss.length - 1:Nat):Int):=by omega
  have i1:((ss.length - 1:Nat):Int) < (ss.length:Int):=by have:=hbd.s1;omega
  subst hrA
  have a0:=y22.cell 0 _ rfl
  have d0:=y32.cell 0 _ rfl
  have d1:=y32.cell 1 _ rfl
  have d2:=y32.cell 2 _ rfl
  have d3:=y32.cell 3 _ rfl
  have d4:=y32.cell 4 _ rfl
  have d5:=y32.cell 5 _ rfl
  have t0:=y5.cell 0 _ rfl
  have hlt5:w2.heap.size < (w2.alloc (.cells #[.slice (some ⟨rb,ro,none⟩) ss.length sc,.slice nA ns.length nc,.int .u64 (t.cur.toNat:Int)] 39)).heap.size:=by simp
  generalize w2.alloc (.cells #[.slice (some ⟨rb,ro,none⟩) ss.length sc,.slice nA ns.length nc,.int .u64 (t.cur.toNat:Int)] 39) = w3 at *
  obtain ⟨b5,hb5⟩:∃ b,b = w2.heap.size:=⟨_,rfl⟩
  rw [← hb5] at y5 t0 hlt5 ⊢
  have HB5:=hide hb5
  have lzb2:b2 < w3.heap.size:=y22.z
  have lzb3:b3 < w3.heap.size:=y32.z
  have lzb5:b5 < w3.heap.size:=hlt5
  have lzrb:rb < w3.heap.size:=hrz
  have neb2:b2 ≠ bs:=fun e => HN23.out.1 (e ▸ HM.out.2.2.2)
  have neb3:b3 ≠ bs:=fun e => HN23.out.2.1 (e ▸ HM.out.2.2.2)
  have neb5:b5 ≠ bs:=by have:=HE1.out.lt bs (.inl HM.out.2.2.2);omega
  have nerb:rb ≠ bs:=by
   obtain ⟨b',o',e',hP'⟩:=HT2.out.s.at_ (by have:=HBD.out.2.s1;omega)
   injection e' with e'
   injection e' with e' _
   subst e'
   exact fun e => hP' (.inl (e ▸ HM.out.2.2.2))
  have HYS:=hide (And.intro y5 (And.intro yr2 (And.intro y22 y32)))
  have HDR:=hide (catDraft (Ma M br) w3.drew sb mb cb K s (HE2.out.low ((Below.refl _ _).drew)) c (HC2.out.low ((Below.refl _ _).drew)) hok d shp fA fc aA ac al dA dc (HD2.out.low ((Below.refl _ _).drew)))
  obtain ⟨u0,u1,u2,u3,u4,u5,u6,ysb,_⟩:=HJ2.out
  have HSB:=hide ysb
  clear hshp hls hbd hb5 y5 y22 y32 yr2 ysb
  go_cut [6,7] from 22 to 70 (fun v6 v7 wx => ∃ (w4:World) (i0 i1 i2 i3 i4:UInt64) (i5:UInt32) (A6:Option Addr) (n6 c6:Nat) (A4:Option Addr) (n4 k4:Nat),v6 = .int .i64 ((s.draft c.t d shp).1:Int) ∧ v7 = .slice A4 n4 k4 ∧ Hid (DrX w3 w4 (fun k => ¬ Ma M br k) (s.draft c.t d shp) i0 i1 i2 i3 i4 i5 A6 n6 c6 A4 n4 k4) ∧ set7b w4 bs (.int .u64 (i0.toNat:Int)) (.int .u64 (i1.toNat:Int)) (.int .u64 (i2.toNat:Int)) (.int .u64 (i3.toNat:Int)) (.int .u64 (i4.toNat:Int)) (.int .u32 (i5.toNat:Int)) (.slice A6 n6 c6) = wx)
  case first =>
   go_region_held3 (fun w' => w'.cell? ⟨b2,0,none⟩ = some (.pointer (some ⟨cb,0,none⟩)) ∧ w'.cell? ⟨b3,0,none⟩ = some (.bool d.rew) ∧ w'.cell? ⟨b3,1,none⟩ = some (.slice fA d.fs.length fc) ∧ w'.cell? ⟨b3,2,none⟩ = some (.slice aA al.length ac) ∧ w'.cell? ⟨b3,3,none⟩ = some (.slice dA d.drops.length dc) ∧ w'.cell? ⟨b3,4,none⟩ = some (.int .u64 (d.off.toNat:Int)) ∧ w'.cell? ⟨b3,5,none⟩ = some (.int .u64 (d.tim.toNat:Int)) ∧ w'.cell? ⟨b5,0,none⟩ = some (.slice (some ⟨rb,ro,none⟩) ss.length sc) ∧ w'.cell? ⟨rb,ro + (ss.length - 1) * 2,none⟩ = some (.int .u32 (shp.toNat:Int))) (first | (with_reducible exact ⟨a0',d0',d1',d2',d3',d4',d5',t0',hs0'⟩) | (with_reducible exact ⟨a0,d0,d1,d2,d3,d4,d5,t0,hs0⟩) | (with_reducible exact ⟨k7 a0' neb2 ltb2,k7 d0' neb3 ltb3,k7 d1' neb3 ltb3,k7 d2' neb3 ltb3,k7 d3' neb3 ltb3,k7 d4' neb3 ltb3,k7 d5' neb3 ltb3,k7 t0' neb5 ltb5,k7 hs0' nerb ltrb⟩) | go_keep)
    (first | (go_at_call 43;(with_reducible refine HDR.out.mono ?_);rintro e w4 ⟨i0,i1,i2,i3,i4,i5,A6,n6,c6,A4,k4,out,rfl,hb4,h0e⟩;have HDE:=hide (drX_of (w:=w3) (A6:=A6) (n6:=n6) (c6:=c6) hb4 h0e);clear h0e;have hb4':=below_of_drew hb4;have a0':=(hb4'.cell (p:=⟨b2,0,none⟩) lzb2).trans a0;have d0':=(hb4'.cell (p:=⟨b3,0,none⟩) lzb3).trans d0;have d1':=(hb4'.cell (p:=⟨b3,1,none⟩) lzb3).trans d1;have d2':=(hb4'.cell (p:=⟨b3,2,none⟩) lzb3).trans d2;have d3':=(hb4'.cell (p:=⟨b3,3,none⟩) lzb3).trans d3;have d4':=(hb4'.cell (p:=⟨b3,4,none⟩) lzb3).trans d4;have d5':=(hb4'.cell (p:=⟨b3,5,none⟩) lzb3).trans d5;have t0':=(hb4'.cell (p:=⟨b5,0,none⟩) lzb5).trans t0;have hs0':=(hb4'.cell (p:=⟨rb,ro + (ss.length - 1) * 2,none⟩) lzrb).trans hs0;have ltb2:=Nat.lt_of_lt_of_le lzb2 hb4'.size;have ltb3:=Nat.lt_of_lt_of_le lzb3 hb4'.size;have ltb5:=Nat.lt_of_lt_of_le lzb5 hb4'.size;have ltrb:=Nat.lt_of_lt_of_le lzrb hb4'.size;have y4s:=HSB.out.keep hb4' HSB.out.z;have u0':=y4s.cell 0 _ rfl;have u1':=y4s.cell 1 _ rfl;have u2':=y4s.cell 2 _ rfl;have u3':=y4s.cell 3 _ rfl;have u4':=y4s.cell 4 _ rfl;have u5':=y4s.cell 5 _ rfl;have u6':=y4s.cell 6 _ rfl;have f0':=y4s.free 0 (by simp);have f1':=y4s.free 1 (by simp);have f2':=y4s.free 2 (by simp);have f3':=y4s.free 3 (by simp);have f4':=y4s.free 4 (by simp);have f5':=y4s.free 5 (by simp);have f6':=y4s.free 6 (by simp);clear hb4 hb4' y4s))
   go_wp2_with fail
   go_meet
   exact ⟨w4,i0,i1,i2,i3,i4,i5,A6,n6,c6,A4,_,k4,rfl,rfl,HDE,rfl⟩
  case rest =>
   obtain ⟨w4,i0,i1,i2,i3,i4,i5,A6,n6,c6,A4,n4,k4,rfl,rfl,HDE,hwc⟩:=hcut
   obtain ⟨g,hg⟩:∃ g,s.draft c.t d shp = g:=⟨_,rfl⟩
   rw [hg] at HDE ⊢
   have HGD:=hide hg
   have o:=oth_set7b w4 bs (.int .u64 (i0.toNat:Int)) (.int .u64 (i1.toNat:Int)) (.int .u64 (i2.toNat:Int)) (.int .u64 (i3.toNat:Int)) (.int .u64 (i4.toNat:Int)) (.int .u32 (i5.toNat:Int)) (.slice A6 n6 c6)
   have ys5:=(HSB.out.keep HDE.out.1 HSB.out.z).set7b (v0:=.int .u64 (i0.toNat:Int)) (v1:=.int .u64 (i1.toNat:Int)) (v2:=.int .u64 (i2.toNat:Int)) (v3:=.int .u64 (i3.toNat:Int)) (v4:=.int .u64 (i4.toNat:Int)) (v5:=.int .u32 (i5.toNat:Int)) (v6:=.slice A6 n6 c6)
   rw [hwc] at o ys5
   have HO:=hide o
   have HE5:=hide ((HE2.out.low HDE.out.1).oth o (.inl HM.out.2.2.2) h3 h4)
   have y55:=((HYS.out.1.keep HDE.out.1 HYS.out.1.z).oth o neb5)
   have yr5:=((HYS.out.2.1.keep HDE.out.1 HYS.out.2.1.z).oth o (fun e => HNS.out e.symm))
   have y25:=((HYS.out.2.2.1.keep HDE.out.1 HYS.out.2.2.1.z).oth o neb2)
   have HM5:=hide ((HM2.out.trans (Mst.of HDE.out.1)).trans (Mst.ofOth (M:=Ma (fun k => Ms sb mb k ∨ k = bs) br) o (.inl (.inr rfl))))
   clear hg o hwc
   have HCB:Hid (chCommit d s c.t = chCommit2 s t g):=hide (com_b HR.out (by rw [HSH.out];exact HGD.out))
   by_cases hg0:g.1 = 0
   ·have t38:((g.1:Int) != 0) = false:=by rw [hg0];rfl
    obtain ⟨hfs,hmo,out,hn4,hQ,hop⟩:=HDE.out.2 hg0
    subst hn4
    have hbm:∀ k,¬ Ma M br k → ¬ k = bs:=fun k hk e => hk (.inl (e ▸ HM.out.2.2.2))
    have hQ5:=hQ.mst (Mst.ofOth (M:=fun k => k = bs) HO.out rfl) hbm
    have hew:=entWrite wc A4 k4 out hQ5.en HE5.out.tb.crc
    rw [hop] at hew
    have HFS:=hide (And.intro hfs (And.intro hmo hg0))
    clear hfs hmo hQ hop hQ5 hbm hg0
    go_wp2_with fail
    refine hew.mono ?_
    clear hew
    rintro e w6 ⟨hb6,hor⟩
    revert hor
    have ys6:=ys5.keep hb6 ys5.z
    have y56:=y55.keep hb6 y55.z
    have yr6:=yr5.keep hb6 yr5.z
    have y26:=y25.keep hb6 y25.z
    have HE6:=hide (HE5.out.low hb6)
    have HM6:=hide (HM5.out.trans (Mst.of hb6))
    rintro (⟨he,v,rfl,hown⟩ | ⟨he,rfl⟩)
    ·have t47:((errE g.2.2:Int) != 0) = false:=by rw [he];rfl
     obtain ⟨xA,xc,rfl⟩:=own_slice hown
     have a0:=y26.cell 0 _ rfl
     have hC6:=hide (((HC2.out.low HDE.out.1).mst (Mst.ofOth (M:=fun k => k = bs) HO.out rfl) (fun k hk e => hk (.inl (e ▸ HM.out.2.2.2))) (fun e => hcs e)).low hb6)
     have hmo4:=HFS.out.2.1
     have HEX:=hide (((HE2.out.addN HDE.out.1 (v:=.slice A6 n6 c6) fun k hk => hmo4.lt k hk).oth HO.out (.inl (.inl HM.out.2.2.2)) h3 h4).low hb6)
     have hst:=catStage (Mn (Ma M br) (.slice A6 n6 c6)) w6 sb mb cb K s HEX.out (by omega) hC6.out.c0 ⟨hC6.out.lt,h1,h2⟩ 109 xA xc (wrES g.2.2) (.own hown fun j hj _ q => by have:=((HE2.out.addN HDE.out.1 (v:=.slice A6 n6 c6) fun k hk => hmo4.lt k hk).oth HO.out (.inl (.inl HM.out.2.2.2)) h3 h4).lt j q;omega)
     obtain ⟨st,hstq⟩:∃ st,s.stage 109 (wrES g.2.2) = st:=⟨_,rfl⟩
     rw [hstq] at hst
     have HC2:=hide (com2_c (s:=s) (u:=t) HFS.out.2.2 he hstq)
     have HMO:=hide (own_below (own_keep HFS.out.2.1 fun k hk hl => HO.out.block k hl fun e => by have:=(HFS.out.2.1.lt k hk).1;have:=HE2.out.lt bs (.inl HM.out.2.2.2);omega) hb6)
     have HYD:=hide (And.intro ys6 (And.intro y56 yr6))
     have HT6:=hide ((((HT2.out.imp (Q:=fun k => ¬ Mn (Ma M br) (.slice A6 n6 c6) k) fun k hk hl q => q.elim hk fun e => by have:=(hmo4.lt k e).1;omega).low HDE.out.1).mst (Mst.ofOth (M:=fun k => k = bs) HO.out rfl) (fun k hk e => hk (.inl (.inl (e ▸ HM.out.2.2.2))))).low hb6)
     have hz36:w3.heap.size ≤ w6.heap.size:=Nat.le_trans HDE.out.1.size (Nat.le_trans HO.out.size hb6.size)
     clear hown hstq ys5 yr5 y55 y25 ys6 y56 yr6 y26 he hmo4
     go_wp2_with fail
     refine hst.mono ?_
     clear hst
     rintro e w7 ⟨rfl,hE7,hm7⟩
     have hsm:∀ k,Ms sb mb k → k < w3.heap.size:=fun k hk => hk.elim (fun e => e ▸ HE2.out.lt sb (.inl HM.out.1)) (fun e => e ▸ HE2.out.lt mb (.inl HM.out.2.1))
     have hns:∀ k,k ≠ sb → k ≠ mb → ¬ Ms sb mb k:=fun k a b q => q.elim a b
     have y7s:=hm7.box HYD.out.1 (hns bs h3 h4)
     have y75:=hm7.box HYD.out.2.1 (hns b5 (fun e => by have:=HE1.out.lt sb (.inl HM.out.1);have:=HB5.out;omega) (fun e => by have:=HE1.out.lt mb (.inl HM.out.2.1);have:=HB5.out;omega))
     have yr7:=hm7.box HYD.out.2.2 (hns br HNE.out.1 HNE.out.2)
     have HMO7:=hide (hm7.own HMO.out fun k hk q => by have:=hsm k q;omega)
     have HT7:=hide (HT6.out.mst hm7 fun k hk q => hk (.inl (.inl (q.elim (fun e => e ▸ HM.out.1) (fun e => e ▸ HM.out.2.1)))))
     have HM7:=hide (HM6.out.trans (hm7.imp (N:=Ma (fun k => Ms sb mb k ∨ k = bs) br) fun k _ q => .inl (.inl q)))
     have HE7:=hide hE7
     have HSM:=hide hsm
     have hz37:w3.heap.size ≤ w7.heap.size:=Nat.le_trans hz36 hm7.size
     clear hE7 hm7 hsm hns
     by_cases hs0:st.2.2 = 0
     ·have t57:((st.2.2:Int) != 0) = false:=by rw [hs0];rfl
      have hmo7:=HMO7.out
      have hownA:=hmo7.alloc (.cells #[.string st.2.1] 9)
      have hlit:Rd (w7.alloc (.cells #[.string st.2.1] 9)) (w7.heap.size + 1) 1 (some ⟨w7.heap.size,0,none⟩) 1 1 [.string st.2.1]:=Rd.lit w7 9 #[.string st.2.1] rfl (by decide)
      obtain ⟨ms2,hms2⟩:∃ ms2,g.2.1.ms ++ [st.2.1] = ms2:=⟨_,rfl⟩
      have hn6:g.2.1.ms.length = n6:=HFS.out.1.2.2.2.2.2.2
      have hn2:n6 + 1 = ms2.length:=by rw [← hms2,List.length_append,hn6];rfl
      have hm9:ms2.length ≤ 9:=by have h:=draft_ms (s:=s) (d:=d) (sh:=shp) hok;rw [HGD.out] at h;omega
      have hstr:strsV g.2.1.ms ++ [.string st.2.1] = strsV ms2:=by rw [← hms2];unfold strsV;simp
      have HSN:Hid ({ g.2.1 with ms:=g.2.1.ms ++ [st.2.1] } = (⟨i0,i1,i2,i3,i4,i5,ms2⟩:Sn)):=hide (by
       obtain ⟨a0,a1,a2,a3,a4,a5,_⟩:=HFS.out.1
       rw [← a0, ← a1, ← a2, ← a3, ← a4, ← a5,hms2])
      have hbs3:bs < w3.heap.size:=HE2.out.lt bs (.inl HM.out.2.2.2)
      have hbr3:br < w3.heap.size:=HE2.out.lt br (.inr rfl)
      have b6:=y7s.cell 6 _ rfl
      have HS0:=hide hs0
      have HYE:=hide (And.intro y7s (And.intro y75 yr7))
      have hst1:(Value.string st.2.1).oneCell' = true:=rfl
      have hnm6:n6 ≤ 8:=by omega
      clear hs0 y7s y75 yr7 hms2 hn6
      go_upto_region 15 with (at_builtin;refine wpList_app _ tyStrs rfl (.tmp 61) (.tmp 63) rfl w3.heap.size _ n6 (strsV g.2.1.ms) rfl hownA (w7.heap.size + 1) _ 1 1 [.string st.2.1] rfl hlit (fun u hu => by rw [List.mem_singleton.1 hu];exact hst1) (by omega) (by simp;omega) ?_;intro v8 w8 hown8 hg8 _;rw [hn2,hstr] at hown8;obtain ⟨A8,c8,rfl⟩:=own_slice hown8;have hb8:Below w3.heap.size w7 w8:=below_app ((Below.refl w3.heap.size w7).alloc hz37 _) (Nat.le_refl _) hownA hg8 (by simp;omega);have y8s:=HYE.out.1.keep hb8 hbs3;have b68:=y8s.cell 6 _ rfl;have f68:=y8s.free 6 (by simp);have HY8:=hide y8s;have HG8:=hide hg8;have HO8:=hide hown8;have HB8:=hide hb8;clear y8s hg8 hown8 hb8)
      have o9:=(Oth.refl bs w8).set 6 (.slice A8 ms2.length c8)
      have y9s:=HY8.out.set (j:=6) (.slice A8 ms2.length c8) rfl
      have hown9:=own_keep HO8.out fun k hk hl => o9.block k hl fun e => by have:=(HO8.out.lt k hk).1;omega
      have hb38:=HB8.out.size
      have hMn:∀ k,¬ Mn (Ma M br) (.slice A6 n6 c6) k → ¬ k = bs:=fun k hk e => hk (.inl (.inl (e ▸ HM.out.2.2.2)))
      have hT9:=(((HT7.out.low (below_al w7 (.cells #[.string st.2.1] 9))).mst (Mst.grown HG8.out) (fun k hk e => hk (.inr e))).mst (Mst.ofOth (M:=fun k => k = bs) o9 rfl) hMn)
      have hE9:=(((HE7.out.low (below_al w7 (.cells #[.string st.2.1] 9))).mst (Mst.grown HG8.out) (fun k hk => ⟨.inr hk,fun e => by have:=(hownA.lt k hk).1;have:=HE2.out.lt sb (.inl HM.out.1);omega,fun e => by have:=(hownA.lt k hk).1;have:=HE2.out.lt mb (.inl HM.out.2.1);omega⟩)).oth o9 (.inl (.inl HM.out.2.2.2)) h3 h4)
      have y95:=((HYE.out.2.1.keep HB8.out (by have:=HYS.out.1.z;omega)).oth o9 neb5)
      have yr9:=((HYE.out.2.2.keep HB8.out hbr3).oth o9 (fun e => HNS.out e.symm))
      have HM9:=hide ((HM7.out.tail HB8.out (by have:=HM2.out.size;omega)).trans (Mst.ofOth (M:=Ma (fun k => Ms sb mb k ∨ k = bs) br) o9 (.inl (.inr rfl))))
      have HE9:=hide hE9
      have HT9:=hide hT9
      have HO9:=hide hown9
      have HBS9:=hide y9s
      have hz39:w3.heap.size ≤ (w8.setCell ⟨bs,6,none⟩ (.slice A8 ms2.length c8)).heap.size:=Nat.le_trans hz37 (Nat.le_trans hb38 o9.size)
      clear hE9 hT9 hown9 o9 hownA hlit hmo7 b6 b68 f68
      generalize w8.setCell ⟨bs,6,none⟩ (.slice A8 ms2.length c8) = w9 at *
      have s0:=y9s.cell 0 _ rfl
      have s1:=y9s.cell 1 _ rfl
      have s2:=y9s.cell 2 _ rfl
      have s3:=y9s.cell 3 _ rfl
      have s4:=y9s.cell 4 _ rfl
      have s5:=y9s.cell 5 _ rfl
      have s6:=y9s.cell 6 _ rfl
      have t0:=y95.cell 0 _ rfl
      have t1:=y95.cell 1 _ rfl
      have t2:=y95.cell 2 _ rfl
      have hmp:=metaPush w9 (some ⟨rb,ro,none⟩) sc ss nA nc ns t.cur.toNat HT9.out.tab (by have:=HBD.out.2.s16;omega) (fun s hs => by have:=(HBD.out.2.f8 s hs).2;omega) (by have:=HBD.out.2.n32;omega) (fun s hs => by have:=HBD.out.2.m8 s hs;omega) ⟨i0,i1,i2,i3,i4,i5,ms2⟩ A8 c8 (rd_own HO9.out) (by show ms2.length ≤ _;omega)
      dsimp only at hmp
      rw [e1,e2] at hmp
      have HYR9:=hide yr9
      clear y9s y95 yr9 hn2 hstr hm9 hMn
      go_wp2_with fail
      refine hmp.mono ?_
      rintro e w10 hpe
      clear hmp
      obtain ⟨er,T,n,hc3,⟨uA,uc,us,vA,vc,vs,rfl,hO,f1,f2,hb10⟩,hn⟩:=push_step (s:=s) (u:=t) (sn:=g.2.1) HS0.out HSN.out hpe
      have yr10:=HYR9.out.keep hb10 HYR9.out.z
      have q0:=yr10.cell 0 _ rfl
      have g0:=yr10.free 0 (by simp)
      have q1:=yr10.cell 1 _ rfl
      have g1:=yr10.free 1 (by simp)
      have q2:=yr10.cell 2 _ rfl
      have g2:=yr10.free 2 (by simp)
      have HYT:=hide (yr10.set3b (v0:=.slice uA us.length uc) (v1:=.slice vA vs.length vc) (v2:=.int .u64 (T.cur.toNat:Int)))
      have hoB:=oth_set3b w10 br (.slice uA us.length uc) (.slice vA vs.length vc) (.int .u64 (T.cur.toNat:Int))
      have HG:Hid (ChgEnd M (fun k => Ms sb mb k ∨ k = bs) (SnJ M bs) w sb mb (K + 2) (chCommit d s c.t) (.returned (.tuple #[.agg #[.slice uA us.length uc,.slice vA vs.length vc,.int .u64 (T.cur.toNat:Int)],.int .i64 (er:Int)])) (set3b w10 br (.slice uA us.length uc) (.slice vA vs.length vc) (.int .u64 (T.cur.toNat:Int)))):=hide (by
       rw [HCB.out.trans (HC2.out.trans hc3)]
       have hown10:=own_below HO9.out hb10
       have hownB:=own_keep hown10 fun k hk hl => hoB.block k hl fun e => by have:=(hown10.lt k hk).1;omega
       refine chg_end (M:=M) (b:=br) (h:=⟨st.1,er,T,n⟩) (((TabQ.own hO (P:=fun k => ¬ Ma M br k) (fun k hk _ q => by have:=HE9.out.lt k (.inl q);omega))).mst (Mst.ofOth (M:=fun k => k = br) hoB rfl) (fun k hk e => hk (.inr e))) f1 f2 (((HE9.out.low hb10).lessN (.inl HM.out.1) (.inl HM.out.2.1)).oth hoB (.inr rfl) HNE.out.1 HNE.out.2) HM.out.1 HM.out.2.1 ((HM9.out.trans (Mst.of hb10)).trans (Mst.ofOth (M:=Ma (fun k => Ms sb mb k ∨ k = bs) br) hoB (.inr rfl))) (Nat.le_of_eq HB.out.symm) ?_
       refine ⟨_,_,_,_,_,_,_,(HBS9.out.keep hb10 HBS9.out.z).oth hoB HNS.out,fun h0 => ?_⟩
       rw [hn h0]
       exact ⟨A8,c8,rfl,.own hownB fun k hk _ q => by have:=HE2.out.lt k (.inl q);omega⟩)
      clear hO hb10 hn hc3 hpe yr10 hoB
      go_wp2_with fail
      refine bodyPost_ret (ret_tb2 (b:=br) rfl _ _ rfl HYT.out) rfl ?_
      exact HG.out
     ·have t57:((st.2.2:Int) != 0) = true:=by rw [bne_iff_ne];omega
      have q0:=yr7.cell 0 _ rfl
      have g0:=yr7.free 0 (by simp)
      have q1:=yr7.cell 1 _ rfl
      have g1:=yr7.free 1 (by simp)
      have q2:=yr7.cell 2 _ rfl
      have g2:=yr7.free 2 (by simp)
      have HYT:=hide (yr7.set3b (v0:=.slice none 0 0) (v1:=.slice none 0 0) (v2:=.int .u64 0))
      have HG:=hide (chg_bad (My:=(fun k => Ms sb mb k ∨ k = bs)) (K:=K + 2) (J:=SnJ M bs) (HCB.out.trans (HC2.out.trans (com3_a hs0))) ((HE7.out.lessN (.inl HM.out.1) (.inl HM.out.2.1)).oth (oth_set3b _ br (.slice none 0 0) (.slice none 0 0) (.int .u64 0)) (.inr rfl) HNE.out.1 HNE.out.2) HM.out.1 HM.out.2.1 (HM7.out.trans (Mst.ofOth (M:=Ma (fun k => Ms sb mb k ∨ k = bs) br) (oth_set3b _ br (.slice none 0 0) (.slice none 0 0) (.int .u64 0)) (.inr rfl))) (Nat.le_of_eq HB.out.symm) (SnJ.bad (y7s.oth (oth_set3b _ br (.slice none 0 0) (.slice none 0 0) (.int .u64 0)) HNS.out) hs0))
      clear hs0 y7s yr7 y75
      go_wp2_with fail
      refine bodyPost_ret (ret_tb2 (b:=br) rfl _ _ rfl HYT.out) rfl ?_
      exact HG.out
    ·have t47:((errE g.2.2:Int) != 0) = true:=by rw [bne_iff_ne];omega
     have q0:=yr6.cell 0 _ rfl
     have g0:=yr6.free 0 (by simp)
     have q1:=yr6.cell 1 _ rfl
     have g1:=yr6.free 1 (by simp)
     have q2:=yr6.cell 2 _ rfl
     have g2:=yr6.free 2 (by simp)
     have HYT:=hide (yr6.set3b (v0:=.slice none 0 0) (v1:=.slice none 0 0) (v2:=.int .u64 0))
     have HG:=hide (chg_bad (My:=(fun k => Ms sb mb k ∨ k = bs)) (K:=K + 2) (J:=SnJ M bs) (HCB.out.trans (com2_b HFS.out.2.2 he)) ((HE6.out.more (by omega)).oth (oth_set3b _ br (.slice none 0 0) (.slice none 0 0) (.int .u64 0)) (.inr rfl) HNE.out.1 HNE.out.2) HM.out.1 HM.out.2.1 (HM6.out.trans (Mst.ofOth (M:=Ma (fun k => Ms sb mb k ∨ k = bs) br) (oth_set3b _ br (.slice none 0 0) (.slice none 0 0) (.int .u64 0)) (.inr rfl))) (Nat.le_of_eq HB.out.symm) (SnJ.bad (ys6.oth (oth_set3b _ br (.slice none 0 0) (.slice none 0 0) (.int .u64 0)) HNS.out) he))
     clear ys6 yr6 y56 y26 ys5 yr5 y55 y25
     go_wp2_with fail
     refine bodyPost_ret (ret_tb2 (b:=br) rfl _ _ rfl HYT.out) rfl ?_
     exact HG.out
   ·have t38:((g.1:Int) != 0) = true:=by rw [bne_iff_ne];omega
    have q0:=yr5.cell 0 _ rfl
    have g0:=yr5.free 0 (by simp)
    have q1:=yr5.cell 1 _ rfl
    have g1:=yr5.free 1 (by simp)
    have q2:=yr5.cell 2 _ rfl
    have g2:=yr5.free 2 (by simp)
    have HYT:=hide (yr5.set3b (v0:=.slice none 0 0) (v1:=.slice none 0 0) (v2:=.int .u64 0))
    have HG:=hide (chg_bad (My:=(fun k => Ms sb mb k ∨ k = bs)) (K:=K + 2) (J:=SnJ M bs) (HCB.out.trans (com2_a hg0)) ((HE5.out.more (by omega)).oth (oth_set3b _ br (.slice none 0 0) (.slice none 0 0) (.int .u64 0)) (.inr rfl) HNE.out.1 HNE.out.2) HM.out.1 HM.out.2.1 (HM5.out.trans (Mst.ofOth (M:=Ma (fun k => Ms sb mb k ∨ k = bs) br) (oth_set3b _ br (.slice none 0 0) (.slice none 0 0) (.int .u64 0)) (.inr rfl))) (Nat.le_of_eq HB.out.symm) (SnJ.bad (ys5.oth (oth_set3b _ br (.slice none 0 0) (.slice none 0 0) (.int .u64 0)) HNS.out) hg0))
    clear hg0 ys5 yr5 y55 y25
    go_wp2_with fail
    refine bodyPost_ret (ret_tb2 (b:=br) rfl _ _ rfl HYT.out) rfl ?_
    exact HG.out
 ·have t18:((e:Int) != 0) = true:=by rw [bne_iff_ne];omega
  have q0:=yr2.cell 0 _ rfl
  have q1:=yr2.cell 1 _ rfl
  have q2:=yr2.cell 2 _ rfl
  have g0:=yr2.free 0 (by simp)
  have g1:=yr2.free 1 (by simp)
  have g2:=yr2.free 2 (by simp)
  have HYS:=hide (yr2.set3b (v0:=.slice none 0 0) (v1:=.slice none 0 0) (v2:=.int .u64 0))
  have HG:=hide (chg_bad (My:=(fun k => Ms sb mb k ∨ k = bs)) (K:=K + 2) (J:=SnJ M bs) (com_a (s:=s) HR.out h0) ((HE2.out.more (by omega)).oth (oth_set3b _ br (.slice none 0 0) (.slice none 0 0) (.int .u64 0)) (.inr rfl) HNE.out.1 HNE.out.2) HM.out.1 HM.out.2.1 (HM2.out.trans (Mst.ofOth (M:=Ma (fun k => Ms sb mb k ∨ k = bs) br) (oth_set3b _ br (.slice none 0 0) (.slice none 0 0) (.int .u64 0)) (.inr rfl))) (Nat.le_of_eq HB.out.symm) (HJ2.out.err (oth_set3b _ br (.slice none 0 0) (.slice none 0 0) (.int .u64 0)) HNS.out h0))
  clear h0
  go_wp2_with fail
  refine bodyPost_ret (ret_tb2 (b:=br) rfl _ _ rfl HYS.out) rfl ?_
  exact HG.out
end Go.Proofs.YtpfofefecamkfaaGreatDoor
