/- THE WALK of layer 15's alive. No statement of the seat is proved here; no condition. -/
import Derived.Test.YtpfofefecamkfaaGreatDoorCtL
import Derived.Test.YtpfofefecamkfaaGreatDoorCtAp
import Derived.Test.YtpfofefecamkfaaGreatDoorCtCb
namespace Go.Proofs.YtpfofefecamkfaaGreatDoor
open Go.RowKit

theorem opn_at {M:Nat → Prop} {w w':World} {sb mb K:Nat} {r:So × Option Ct × Nat} {s:So} {c:Ct} {e:Ending} (h:OpnEnd M w sb mb K r e w') (hr:r = (s,some c,0)) :
 ∃ cb,e = .returned (.tuple #[.pointer (some ⟨cb,0,none⟩),.int .i64 0]) ∧ w.heap.size ≤ cb ∧ cb < w'.heap.size ∧ Env (Ma M cb) w' sb mb K s ∧ CatR w' (fun k => ¬ Ma M cb k) cb sb c ∧ Mst (Ms sb mb) w w':=by
 subst hr
 exact h
/-- what a commit of nothing leaves -/
theorem drq_nil (w:World) (P:Nat → Prop) (o:UInt64):DrQ w P (draftOff o) none 0 none 0 [] none 0:=⟨.nil _ _ _,⟨.nil _ _ _,fun _ h => (List.not_mem_nil h).elim⟩,rfl,.nil _ _ _,Nat.zero_le _,Nat.zero_le _⟩
theorem cm_vals {M:Nat → Prop} {w w':World} {sb mb cb K:Nat} {rp r:Tr} {e:Ending} (h:CmEnd M w sb mb cb K rp e w') (hr:rp = r) (h0:r.e = 0) :
 ∃ A c,e = .returned (.tuple #[.agg #[.int .u64 (r.n.id.toNat:Int),.int .u64 (r.n.par.toNat:Int),.int .u64 (r.n.seq.toNat:Int),.int .u64 (r.n.off.toNat:Int),.int .u64 (r.n.tim.toNat:Int),.int .u32 (r.n.sch.toNat:Int),.slice A r.n.ms.length c],.int .i64 0]) ∧ Env M w' sb mb K r.s ∧ CatR w' (fun k => ¬ M k) cb sb r.c ∧ r.c.t.ok ∧ Mst (Mc sb mb cb) w w':=by
 subst hr
 obtain ⟨v0,v1,v2,v3,v4,v5,v6,rfl,hE,hC,hok,hm,_,hg⟩:=h
 obtain ⟨A,c,he,_⟩:=hg h0
 rw [h0,he]
 exact ⟨A,c,rfl,hE,hC,hok,hm⟩
theorem cm_err {M:Nat → Prop} {w w':World} {sb mb cb K er:Nat} {rp r:Tr} {e:Ending} (h:CmEnd M w sb mb cb K rp e w') (hr:rp = r) (h0:r.e = er) (hne:er ≠ 0) :
 e = .returned (.tuple #[.agg #[.int .u64 0,.int .u64 0,.int .u64 0,.int .u64 0,.int .u64 0,.int .u32 0,.slice none 0 0],.int .i64 (er:Int)]) ∧ Env M w' sb mb K r.s ∧ CatR w' (fun k => ¬ M k) cb sb r.c ∧ r.c.t.ok ∧ Mst (Mc sb mb cb) w w':=by
 subst hr h0
 obtain ⟨v0,v1,v2,v3,v4,v5,v6,rfl,hE,hC,hok,hm,hb,_⟩:=h
 rw [hb hne]
 exact ⟨rfl,hE,hC,hok,hm⟩
theorem CatR.mc {M:Nat → Prop} {w w':World} {sb mb cb cb2:Nat} {c:Ct} (h:CatR w (fun k => ¬ M k) cb2 sb c) (m:Mst (Mc sb mb cb) w w') (m1:M sb) (m2:M mb) (m3:M cb) (n1:cb2 ≠ sb) (n2:cb2 ≠ mb) (n3:cb2 ≠ cb):CatR w' (fun k => ¬ M k) cb2 sb c :=
 h.mst m (fun k hk q => hk (by rcases q with q | q | q;exact q ▸ m1;exact q ▸ m2;exact q ▸ m3)) (fun q => by rcases q with q | q | q;exact n1 q;exact n2 q;exact n3 q)
theorem rdq_lit {P:Nat → Prop} (w:World) (C:Array Value) (m:Nat × Nat) (l:List UInt8) (h:C.toList = bytesV l) (hl:l.length ≤ maxLen) (hp:P w.heap.size):RdQ (w.alloc (.cells C 5 m)) P 1 (some ⟨w.heap.size,0,none⟩) l.length l.length (bytesV l) :=
 ⟨⟨by simp [bytesV],Nat.le_refl _,hl,fun _ => ⟨w.heap.size,0,rfl,by simp,fun j u hj => by
  rw [Nat.zero_add,World.cell?_alloc_mark, ← Array.getElem?_toList,h]
  exact hj⟩⟩,fun _ => ⟨_,0,rfl,hp⟩⟩
set_option maxRecDepth 100000 in
set_option maxHeartbeats 8000000 in
theorem alive15 (w:World) (hT:Tabs w):Calls Tryz.prog 8 #[] w fun e w' => e = .returned (.bool true) ∧ Below w.heap.size w w':=by
 obtain ⟨s1,ca,s2,cb,s3,r1,r2,r3,p1,p2,p3,p4,p5,p6,p7,p8,p9,p10,p11,p12,p13,p14,p15⟩:=alive_plan
 have oka:=opened_ok p1
 have okb:=opened_ok p3
 have HP:=hide (And.intro p1 (And.intro p3 (And.intro p4 (And.intro p5 (And.intro p9 p12)))))
 have HE:=hide (And.intro p6 (And.intro p10 p13))
 have hn:=newStore w hT 100000 (by decide) (by decide)
 have i1:(r1.n.id.toNat:Int) = 1:=by rw [p7];rfl
 have i2:(r1.n.seq.toNat:Int) = 1:=by rw [p8];rfl
 have i3:(r3.n.id.toNat:Int) = 2:=by rw [p14];rfl
 clear p1 p3 p4 p5 p9 p12 p6 p10 p13 p7 p8 p14 hT
 go_enter Tryz.func8,Tryz.ntmps8
 go_wp2_with fail
 refine hn.mono ?_
 rintro e w1 ⟨sb,mb,rfl,l1,l2,hE1,hb1⟩
 clear hn
 have htw:=lawTwo2 w1
 have HE1:=hide hE1
 have HB1:=hide hb1
 clear hE1 hb1
 go_wp2_with fail
 refine htw.mono ?_
 rintro e w2 ⟨A,k,rfl,hr2,hb2⟩
 clear htw
 have hop:=catOpen (Ms sb mb) w2 sb mb 0 (So.new 100000) (HE1.out.low hb2) (by omega) 1 two A k (hr2.imp fun j hj _ q => by have:=HE1.out.lt j q;omega)
 have HB2:=hide (below_two HB1.out (hb2))
 have hz12:=hb2.size
 clear hr2 hb2
 go_wp2_with fail
 refine hop.mono ?_
 rintro e w3 hopn
 clear hop
 obtain ⟨ba,rfl,l3,l3',hE3,hC3,hm3⟩:=opn_at hopn HP.out.1
 clear hopn
 have z2:w.heap.size ≤ w2.heap.size:=HB2.out.size
 have g1:=HE1.out.lt sb (.inl rfl)
 have g2:=HE1.out.lt mb (.inr rfl)
 have N1:Hid (ba ≠ sb ∧ ba ≠ mb):=hide (by omega)
 have HM3:Hid (Mst (fun k => w.heap.size ≤ k) w w3):=hide ((Mst.of HB2.out).trans (hm3.imp fun k _ q => by rcases q with rfl | rfl;exact l1;exact l2))
 have hN:=catName _ w3 sb ba ca hC3
 rw [p2] at hN
 have HE3:=hide hE3
 have HC3:=hide hC3
 clear hE3 hC3 hm3
 go_wp2_with fail
 refine hN.mono ?_
 rintro e w3' ⟨rfl,rfl⟩
 clear hN
 have htw:=lawTwo2 w3
 go_wp2_with fail
 refine htw.mono ?_
 rintro e w4 ⟨A4,k4,rfl,hr4,hb4⟩
 clear htw
 have hop:=catOpen (Ma (Ms sb mb) ba) w4 sb mb 2 s1 (HE3.out.low hb4) (by omega) 1 two A4 k4 (hr4.imp fun j hj _ q => by have:=HE3.out.lt j q;omega)
 have HC4:=hide (HC3.out.low hb4)
 have HM4:=hide (HM3.out.trans (Mst.of hb4))
 have z34:w3.heap.size ≤ w4.heap.size:=hb4.size
 clear hr4 hb4
 go_wp2_with fail
 refine hop.mono ?_
 rintro e w5 hopn
 clear hop
 obtain ⟨bb,rfl,l5,l5',hE5,hC5,hm5⟩:=opn_at hopn HP.out.2.1
 clear hopn
 have N2:Hid (bb ≠ sb ∧ bb ≠ mb ∧ ba ≠ bb):=hide (by omega)
 have hCa:=(HC4.out.imp (Q:=fun k => ¬ Ma (Ma (Ms sb mb) ba) bb k) fun k hk hl q => q.elim hk fun e => by omega).mst hm5 (fun k hk q => hk (.inl (.inl q))) (fun q => q.elim N1.out.1 N1.out.2)
 have HM5:=hide (HM4.out.trans (hm5.imp (N:=fun k => w.heap.size ≤ k) fun k _ q => by rcases q with rfl | rfl;exact l1;exact l2))
 have ms:Hid (Ma (Ma (Ms sb mb) ba) bb sb ∧ Ma (Ma (Ms sb mb) ba) bb mb ∧ Ma (Ma (Ms sb mb) ba) bb ba ∧ Ma (Ma (Ms sb mb) ba) bb bb):=hide ⟨.inl (.inl (.inl rfl)),.inl (.inl (.inr rfl)),.inl (.inr rfl),.inr rfl⟩
 generalize Ma (Ma (Ms sb mb) ba) bb = M at *
 have HL:Hid (w.heap.size ≤ ba ∧ w.heap.size ≤ bb):=hide (by omega)
 have kc:=Lib.run_convert_bytes_const (P:=Tryz.prog) w5 55 5 #[.int .u8 120] 1 1 Tryz.underlying55 Tryz.underlying5
 have hbs:=below_al w5 (.cells #[.int .u8 120] 5 (1,2))
 have hlit:RdQ (w5.alloc (.cells #[.int .u8 120] 5 (1,2))) (fun k => ¬ M k) 1 (some ⟨w5.heap.size,0,none⟩) 1 1 (bytesV [120]):=rdq_lit w5 #[.int .u8 120] (1,2) [120] rfl (by decide) (fun q => Nat.lt_irrefl _ (hE5.lt _ q))
 have HC6:=hide (hCa.low hbs)
 have HD6:=hide (hC5.low hbs)
 have HM6:=hide (HM5.out.trans (Mst.of hbs))
 have HOKK:=hide (And.intro oka okb)
 have hst:=catStage M (w5.alloc (.cells #[.int .u8 120] 5 (1,2))) sb mb ba 4 s2 (hE5.low hbs) (by omega) HC6.out.c0 ⟨HC6.out.lt,N1.out.1,N1.out.2⟩ 100 (some ⟨w5.heap.size,0,none⟩) 1 [120] hlit
 rw [HP.out.2.2.1] at hst
 clear hE5 hC5 hm5 hCa hbs hlit oka okb l3 l3' l5 l5' z34 hz12 z2 g1 g2
 go_wp2_with fail
 refine hst.mono ?_
 rintro e w7 ⟨rfl,hE7,hm7⟩
 clear hst kc
 dsimp only at hE7
 have HC7:=hide (HC6.out.mst hm7 (fun k hk q => hk (by rcases q with rfl | rfl;exact ms.out.1;exact ms.out.2.1)) (fun q => q.elim N1.out.1 N1.out.2))
 have HD7:=hide (HD6.out.mst hm7 (fun k hk q => hk (by rcases q with rfl | rfl;exact ms.out.1;exact ms.out.2.1)) (fun q => q.elim N2.out.1 N2.out.2.1))
 have HM7:=hide (HM6.out.trans (hm7.imp (N:=fun k => w.heap.size ≤ k) fun k _ q => by rcases q with rfl | rfl;exact l1;exact l2))
 have hE7':=hE7
 have hcm:Calls Tryz.prog 13 #[.pointer (some ⟨ba,0,none⟩),.agg #[.bool false,.slice none 0 0,.slice none 0 0,.slice none 0 0,.int .u64 5,.int .u64 0]] w7 (CmEnd M w7 sb mb ba ((4 + 2) + 12) (publish (chCommit (draftOff 5)) 3 s3 ca)):=catCommit M w7 sb mb ba (4 + 2) _ hE7 (by omega) _ HC7.out HOKK.out.1 ms.out.2.2.1 N1.out.1 N1.out.2 (draftOff 5) none 0 none 0 [] none 0 (drq_nil _ _ _)
 clear hE7' hE7 hm7
 go_wp2_with fail
 refine hcm.mono ?_
 rintro e w8 hcm8
 clear hcm
 obtain ⟨A8,c8,rfl,hE8,hC8,hok8,hm8⟩:=cm_vals hcm8 HP.out.2.2.2.1 HE.out.1
 clear hcm8
 rw [i1,i2]
 have hbn:=below_al w8 (.cells #[.int .u64 1,.int .u64 (r1.n.par.toNat:Int),.int .u64 1,.int .u64 (r1.n.off.toNat:Int),.int .u64 (r1.n.tim.toNat:Int),.int .u32 (r1.n.sch.toNat:Int),.slice A8 r1.n.ms.length c8] 43)
 have yx:=boxN_new w8 #[.int .u64 1,.int .u64 (r1.n.par.toNat:Int),.int .u64 1,.int .u64 (r1.n.off.toNat:Int),.int .u64 (r1.n.tim.toNat:Int),.int .u32 (r1.n.sch.toNat:Int),.slice A8 r1.n.ms.length c8] 43
 have HE9:=hide (hE8.low hbn)
 have HC9:=hide (hC8.low hbn)
 have HD9:=hide ((HD7.out.mc hm8 ms.out.1 ms.out.2.1 ms.out.2.2.1 N2.out.1 N2.out.2.1 (fun e => N2.out.2.2 e.symm)).low hbn)
 have HM9:=hide ((HM7.out.trans (hm8.imp (N:=fun k => w.heap.size ≤ k) (fun k _ q => by rcases q with rfl | rfl | rfl;exact l1;exact l2;exact HL.out.1))).trans (Mst.of hbn))
 have HX:Hid (w7.heap.size ≤ w8.heap.size ∧ sb < w8.heap.size ∧ mb < w8.heap.size ∧ ba < w8.heap.size ∧ bb < w8.heap.size):=hide ⟨hm8.size,hE8.lt sb ms.out.1,hE8.lt mb ms.out.2.1,hE8.lt ba ms.out.2.2.1,hE8.lt bb ms.out.2.2.2⟩
 have HOK9:=hide hok8
 have HYX:=hide yx
 clear hE8 hC8 hm8 hok8 hbn yx
 go_upto_region 10 with fail
 generalize w8.alloc (.cells #[.int .u64 1,.int .u64 (r1.n.par.toNat:Int),.int .u64 1,.int .u64 (r1.n.off.toNat:Int),.int .u64 (r1.n.tim.toNat:Int),.int .u32 (r1.n.sch.toNat:Int),.slice A8 r1.n.ms.length c8] 43) = w9 at *
 obtain ⟨bx,hbx⟩:∃ b,b = w8.heap.size:=⟨_,rfl⟩
 rw [← hbx]
 have yx:=HYX.out.at_ hbx.symm
 have NX:Hid (bx ≠ sb ∧ bx ≠ mb ∧ bx ≠ ba ∧ bx ≠ bb):=hide (by have:=HX.out;omega)
 have HYX9:=hide yx
 clear yx hbx
 have hcm:Calls Tryz.prog 13 #[.pointer (some ⟨ba,0,none⟩),.agg #[.bool false,.slice none 0 0,.slice none 0 0,.slice none 0 0,.int .u64 5,.int .u64 0]] w9 (CmEnd M w9 sb mb ba ((4 + 2 + 12) + 12) (publish (chCommit (draftOff 5)) 3 r1.s r1.c)):=catCommit M w9 sb mb ba (4 + 2 + 12) _ HE9.out (by omega) _ HC9.out HOK9.out ms.out.2.2.1 N1.out.1 N1.out.2 (draftOff 5) none 0 none 0 [] none 0 (drq_nil _ _ _)
 go_wp2_with fail
 refine hcm.mono ?_
 rintro e w10 hcm8
 clear hcm
 obtain ⟨rfl,hE10,hC10,hok10,hm10⟩:=cm_err hcm8 HP.out.2.2.2.2.1 HE.out.2.1 (by decide)
 clear hcm8
 have hbn:=below_al w10 (.cells #[.int .u64 0,.int .u64 0,.int .u64 0,.int .u64 0,.int .u64 0,.int .u32 0,.slice none 0 0] 43)
 have HE11:=hide (hE10.low hbn)
 have HC11:=hide (hC10.low hbn)
 have HD11:=hide ((HD9.out.mc hm10 ms.out.1 ms.out.2.1 ms.out.2.2.1 N2.out.1 N2.out.2.1 (fun e => N2.out.2.2 e.symm)).low hbn)
 have HM11:=hide ((HM9.out.trans (hm10.imp (N:=fun k => w.heap.size ≤ k) (fun k _ q => by rcases q with rfl | rfl | rfl;exact l1;exact l2;exact HL.out.1))).trans (Mst.of hbn))
 have y10:=hm10.box HYX9.out (fun q => by rcases q with q | q | q;exact NX.out.1 q;exact NX.out.2.1 q;exact NX.out.2.2.1 q)
 have HYX11:=hide (y10.keep hbn y10.z)
 have HOK11:=hide hok10
 clear hE10 hC10 hm10 hok10 hbn y10
 go_upto_region 11 with fail
 generalize w10.alloc (.cells #[.int .u64 0,.int .u64 0,.int .u64 0,.int .u64 0,.int .u64 0,.int .u32 0,.slice none 0 0] 43) = w11 at *
 generalize w10.heap.size = bz at *
 have hcm:Calls Tryz.prog 13 #[.pointer (some ⟨bb,0,none⟩),.agg #[.bool false,.slice none 0 0,.slice none 0 0,.slice none 0 0,.int .u64 9,.int .u64 0]] w11 (CmEnd M w11 sb mb bb ((4 + 2 + 12 + 12) + 12) (publish (chCommit (draftOff 9)) 3 r2.s cb)):=catCommit M w11 sb mb bb (4 + 2 + 12 + 12) _ HE11.out (by omega) _ HD11.out HOKK.out.2 ms.out.2.2.2 N2.out.1 N2.out.2.1 (draftOff 9) none 0 none 0 [] none 0 (drq_nil _ _ _)
 go_wp2_with fail
 refine hcm.mono ?_
 rintro e w12 hcm8
 clear hcm
 obtain ⟨A12,c12,rfl,hE12,hC12,hok12,hm12⟩:=cm_vals hcm8 HP.out.2.2.2.2.2 HE.out.2.2
 clear hcm8
 rw [i3]
 have hbn:=below_al w12 (.cells #[.int .u64 2,.int .u64 (r3.n.par.toNat:Int),.int .u64 (r3.n.seq.toNat:Int),.int .u64 (r3.n.off.toNat:Int),.int .u64 (r3.n.tim.toNat:Int),.int .u32 (r3.n.sch.toNat:Int),.slice A12 r3.n.ms.length c12] 43)
 have yy:=boxN_new w12 #[.int .u64 2,.int .u64 (r3.n.par.toNat:Int),.int .u64 (r3.n.seq.toNat:Int),.int .u64 (r3.n.off.toNat:Int),.int .u64 (r3.n.tim.toNat:Int),.int .u32 (r3.n.sch.toNat:Int),.slice A12 r3.n.ms.length c12] 43
 have HD13:=hide (hC12.low hbn)
 have HC13:=hide ((HC11.out.mc hm12 ms.out.1 ms.out.2.1 ms.out.2.2.2 N1.out.1 N1.out.2 N2.out.2.2).low hbn)
 have HM13:=hide ((HM11.out.trans (hm12.imp (N:=fun k => w.heap.size ≤ k) (fun k _ q => by rcases q with rfl | rfl | rfl;exact l1;exact l2;exact HL.out.2))).trans (Mst.of hbn))
 have y12:=hm12.box HYX11.out (fun q => by rcases q with q | q | q;exact NX.out.1 q;exact NX.out.2.1 q;exact NX.out.2.2.2 q)
 have yx13:=y12.keep hbn y12.z
 clear hE12 hm12 hok12 hC12 hbn y12
 go_upto_region 12 with fail
 generalize w12.alloc (.cells #[.int .u64 2,.int .u64 (r3.n.par.toNat:Int),.int .u64 (r3.n.seq.toNat:Int),.int .u64 (r3.n.off.toNat:Int),.int .u64 (r3.n.tim.toNat:Int),.int .u32 (r3.n.sch.toNat:Int),.slice A12 r3.n.ms.length c12] 43) = w13 at *
 generalize w12.heap.size = by_ at *
 have x0:=yx13.cell 0 _ rfl
 have x2:=yx13.cell 2 _ rfl
 have u0:=yy.cell 0 _ rfl
 have hNa:=catName _ w13 sb ba r2.c HC13.out
 have hNb:=catName _ w13 sb bb r3.c HD13.out
 rw [p11] at hNa
 rw [p15] at hNb
 clear yx13 yy
 go_wp2_with fail
 refine hNa.mono ?_
 rintro e w13' ⟨rfl,rfl⟩
 clear hNa
 go_wp2_with fail
 refine hNb.mono ?_
 rintro e w13' ⟨rfl,rfl⟩
 clear hNb
 go_wp2_with fail
 go_ret
 exact ⟨rfl,HM13.out.below (fun k hk => hk) (Nat.le_refl _)⟩
end Go.Proofs.YtpfofefecamkfaaGreatDoor
