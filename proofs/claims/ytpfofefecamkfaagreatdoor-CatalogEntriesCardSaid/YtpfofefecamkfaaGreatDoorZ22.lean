/- For CatalogEntries. -/
import Derived.Test.YtpfofefecamkfaaGreatDoorZ20
namespace Go.Proofs.YtpfofefecamkfaaGreatDoor
open Go.RowKit Proofs.Tryz
set_option maxRecDepth 100000
set_option maxHeartbeats 16000000
set_option linter.all false
theorem SH:SHt:=by
 intro w M S D R N rb kb K c tc lc s A tA lA h db x nm hc d fA fc aA ac al dA dc hd bi shp
 have:=hc.ok.bd.n32;have bB:=hc.ok.cur;obtain⟨oA,bC⟩:∃o,o=Obj.cells (dRV d fA fc aA al.length ac dA dc) 48:=⟨_,rfl⟩;obtain⟨oB,bj⟩:∃o,o=Obj.cells Aj 43:=⟨_,rfl⟩;have yA:dH (((w.alloc oA).alloc oB).alloc oB) w.heap.size (dRV d fA fc aA al.length ac dA dc).toList:=by rw[bC];exact((AP w _ _).al oB).al oB
 have yB:dH (((w.alloc oA).alloc oB).alloc oB) (w.heap.size+1) Aj.toList:=by rw[bj];exact((AP (w.alloc oA) _ _).al _).at_ gj
 have yC:dH (((w.alloc oA).alloc oB).alloc oB) (w.heap.size+2) Aj.toList:=by rw[bj];exact(AP ((w.alloc oA).alloc _) _ _).at_ gj
 have ar:=Ah (Ah (Af w oA) (Af _ oB)) (Af _ oB);have hz:(((w.alloc oA).alloc oB).alloc oB).heap.size=w.heap.size+3:=gj;subst bC bj;have HX:=gU yA yB yC ar hz;have H:=gT h hc hd bi;clear yA yB yC ar hz h hc hd bi;go_enter func123,ntmps123;go_upto_region 2 with fail
 generalize (((w.alloc _).alloc _).alloc _)=w3 at *;obtain⟨b11,a8⟩:∃b,b=w.heap.size+1+1:=⟨_,rfl⟩;obtain⟨b8,V⟩:∃b,b=w.heap.size+1:=⟨_,rfl⟩;obtain⟨b5,ad⟩:∃b,b=w.heap.size:=⟨_,rfl⟩;rw[<-a8,<-V,<-ad];obtain⟨yA,yB,yC,ar,hz⟩:=HX.o;have y5:=yA.at_ ad.symm;have y8:=yB.at_ V.symm;have y11:=yC.at_ (show w.heap.size+2=b11 by omega);have HB:ga (b5=w.heap.size/\b8=w.heap.size+1/\b11=w.heap.size+2/\w3.heap.size=w.heap.size+3):=AB gd;clear HX yA yB yC a8 V ad hz;have hX:=(H.o.2.1.low ar).bx;have c3:=hX.cell 3 _ rfl;have c2:=hX.cell 2 _ rfl;have ay:=dJ.low (dJ.imp H.o.2.1.t (Q:=λk=>¬M k/\k<w.heap.size) λk hk hl=>⟨hk,hl⟩) ar;go_cut [29] from 24 to 29 (λv wx=>v = .bool (decide (0<x.cur.toNat))/\w3=wx);case first=>
  clear hX ay;by_cases h0:0<x.cur.toNat
  .have ci:=gG 0 x.cur.toNat
   have HD:=AB (AF h0);clear h0;(go_wp2_with fail);go_meet;exact⟨by rw[HD.o],rfl⟩
  have ci:=gH 0 x.cur.toNat
  have HD:=AB (AG h0);clear h0;go_wp2_with fail
  go_meet;exact⟨by rw[HD.o],rfl⟩
 case rest=>
 obtain⟨rfl,hw⟩:=hcut;subst hw;obtain⟨cb,aY⟩:∃b,decide (0<x.cur.toNat)=b:=⟨_,rfl⟩;rw[aY];go_upto_if 29 with fail;go_cut [] from 30 to 43 (λwx=>∃g:Nl,dH wx b11 (dO g.p g.A g.c).toList/\dH wx b5 (dRV d fA fc aA al.length ac dA dc).toList/\dH wx b8 Aj.toList/\ga (dM wx (λk=>¬M k) 1 g.A g.p.ms.length g.c (AY g.p.ms)/\g.p.ms.length<=8/\(∀m∈g.p.ms,m.size<=9223372036854775807)/\dM w (λk=>¬M k) 1 g.A g.p.ms.length g.c (AY g.p.ms))/\Below w.heap.size w wx/\w3.heap.size<=wx.heap.size);case first=>
  cases cb with
  | false=>
    have HZ:=gS y5 y8 y11;clear y5 y8 y11 hX ay;(go_wp2_with fail);go_meet;exact⟨default,HZ.o.2.2,HZ.o.1,HZ.o.2.1,AB ⟨.nil _ _ _,gm,λm hm=>(by cases hm),.nil _ _ _⟩,ar,AD _⟩
  | true=>
  have a9:=bB (of_decide_eq_true aY);obtain⟨G,ro,bl,az,f0,f1,f2,f3,f4,f5,f6⟩:=ay.n.rd.nl (i:=x.ns.length-1) gd;have Z:=B9 (l:=x.ns) (i:=x.ns.length-1) gd;generalize x.ns.getD (x.ns.length-1) default=g at *;have bD:=ay.ni g Z;have:IntKind.i64.wrap ((x.ns.length:Int)-1)=((x.ns.length-1:Nat):Int):=by rw[IntWalk.i64_in _ ⟨gd,gd⟩];omega
  have:x.ns.length-1<x.ns.length:=gd;rw[bl]at c2;have:=(y11.keep (AC _ _).drew y11.z).cell 0 _ rfl;have:=(y11.keep (AC _ _).drew y11.z).free 0 gj;have p0:=y11.cell 0 _ rfl;have q0:=y11.free 0 gj;have p1:=y11.cell 1 _ rfl;have q1:=y11.free 1 gj;have p2:=y11.cell 2 _ rfl;have q2:=y11.free 2 gj;have p3:=y11.cell 3 _ rfl;have q3:=y11.free 3 gj;have p4:=y11.cell 4 _ rfl;have q4:=y11.free 4 gj;have p5:=y11.cell 5 _ rfl;have q5:=y11.free 5 gj;have p6:=y11.cell 6 _ rfl;have q6:=y11.free 6 gj;have aB:G≠b11:=λe=>by
   obtain⟨b',o',e',q⟩:=ay.n.at_ a9;rw[bl]at e';injection e' with e';injection e' with e' _;have:=HB.o;have:=q.2;omega
  have cj:db≠b11:=λe=>by have:=H.o.2.1.bx.z;have:=HB.o;omega
  have ck:db<w3.heap.size:=by have:=H.o.2.1.bx.z;have:=HB.o;omega
  have HS:ga (∀W,Oth b11 w3 W->W.drew.cell? (gX db 2)=some (.slice (gY G ro) x.ns.length x.nc)/\W.drew.cell? (gX G (ro+(x.ns.length-1) * 7))=some (il g.p.id.toNat)/\W.drew.cell? (gX G (ro+(x.ns.length-1) * 7+1))=some (il g.p.par.toNat)/\W.drew.cell? (gX G (ro+(x.ns.length-1) * 7+2))=some (il g.p.seq.toNat)/\W.drew.cell? (gX G (ro+(x.ns.length-1) * 7+3))=some (il g.p.off.toNat)/\W.drew.cell? (gX G (ro+(x.ns.length-1) * 7+4))=some (il g.p.tim.toNat)/\W.drew.cell? (gX G (ro+(x.ns.length-1) * 7+5))=some (im g.p.sch.toNat)/\W.drew.cell? (gX G (ro+(x.ns.length-1) * 7+6))=some (.slice g.A g.p.ms.length g.c)):=AB λW o=>⟨(o.cell (p:=gX db 2) ck cj).trans c2,(o.cell (p:=gX G (ro+(x.ns.length-1) * 7)) az aB).trans f0,(o.cell (p:=gX G (ro+(x.ns.length-1) * 7+1)) az aB).trans f1,(o.cell (p:=gX G (ro+(x.ns.length-1) * 7+2)) az aB).trans f2,(o.cell (p:=gX G (ro+(x.ns.length-1) * 7+3)) az aB).trans f3,(o.cell (p:=gX G (ro+(x.ns.length-1) * 7+4)) az aB).trans f4,(o.cell (p:=gX G (ro+(x.ns.length-1) * 7+5)) az aB).trans f5,(o.cell (p:=gX G (ro+(x.ns.length-1) * 7+6)) az aB).trans f6⟩;have HG:=gT bD (H.o.2.1.ok.bd.m8 g Z) (H.o.2.1.ok.nm g Z) (H.o.2.1.t.ni g Z);have HZ:=gS y5 y8 y11;clear hX ay bl bD aY a9 y5 y8 y11 Z;go_upto_region 3 with fail
  refine wp_region_held_drew (S:=λw'=>w'.cell? (gX db 2)=some (.slice (gY G ro) x.ns.length x.nc)/\w'.cell? (gX G (ro+(x.ns.length-1) * 7))=some (il g.p.id.toNat)/\w'.cell? (gX G (ro+(x.ns.length-1) * 7+1))=some (il g.p.par.toNat)/\w'.cell? (gX G (ro+(x.ns.length-1) * 7+2))=some (il g.p.seq.toNat)/\w'.cell? (gX G (ro+(x.ns.length-1) * 7+3))=some (il g.p.off.toNat)/\w'.cell? (gX G (ro+(x.ns.length-1) * 7+4))=some (il g.p.tim.toNat)/\w'.cell? (gX G (ro+(x.ns.length-1) * 7+5))=some (im g.p.sch.toNat)/\w'.cell? (gX G (ro+(x.ns.length-1) * 7+6))=some (.slice g.A g.p.ms.length g.c)) gh ?_ (λhHeld=>?_)
  .exact HS.o _ (Oth.refl _ _)
  clear c2 f0 f1 f2 f3 f4 f5 f6;refine tK 0 ?_;refine tK 1 ?_;refine tK 2 ?_;refine tK 3 ?_;refine tK 4 ?_;refine tK 5 ?_;refine tK 6 ?_;refine tK 7 ?_;refine tK 8 ?_;refine tK 9 ?_;refine tK 10 ?_;refine tK 11 ?_;refine tK 12 ?_;refine tK 13 ?_;refine rD 14 λK0 bE=>?_;go_simp;refine bE.out _ _ ?_ (λhHeld=>?_)
  .exact HS.o _ (((((((Oth.refl b11 w3).set 0 _).set 1 _).set 2 _).set 3 _).set 4 _).set 5 _ |>.set 6 _)
  clear bE K0;refine wpAnyH_done gh ?_ _;go_wp2_with fail
  go_meet;have o:=(Ba (EU w3 b11 (il g.p.id.toNat) (il g.p.par.toNat) (il g.p.seq.toNat) (il g.p.off.toNat) (il g.p.tim.toNat) (im g.p.sch.toNat) (.slice g.A g.p.ms.length g.c))).drew;have Y:dH (set7b w3 b11 (il g.p.id.toNat) (il g.p.par.toNat) (il g.p.seq.toNat) (il g.p.off.toNat) (il g.p.tim.toNat) (im g.p.sch.toNat) (.slice g.A g.p.ms.length g.c)) b11 (dO g.p g.A g.c).toList:=HZ.o.2.2.set7b;exact⟨g,Y.keep (AC _ _).drew Y.z,o.box HZ.o.1 (by have:=HB.o;omega),o.box HZ.o.2.1 (by have:=HB.o;omega),AB ⟨(o.rdq HG.o.1 λk hk e=>by have:=HB.o;have:=hk.2;omega).imp λk hk _=>hk.1,HG.o.2⟩,ar.trans (o.below (λk e=>by have:=HB.o;omega) (by have:=HB.o;show w.heap.size<=w3.heap.size;omega)),by simp[set7b]⟩
 case rest=>
 clear hX ay aY c2 c3 y5 y8 y11 ar;obtain⟨g,y11,y5,y8,HG,bF,bm⟩:=hcut;obtain⟨p0,-,p2,p3,p4⟩:=y11.c5;have e5:=y5.cell 5 _ rfl;obtain⟨i1,bG⟩:∃i,g.p.id+1=i:=⟨_,rfl⟩;have cn:IntKind.u64.wrap ((g.p.id.toNat:Int)+1)=(i1.toNat:Int):=by rw[<-bG];exact Jv _
 clear bG;obtain⟨tm,co⟩:=eh d.tim g.p.tim;obtain⟨s1,aL⟩:∃s1:Nl,s1=⟨⟨i1,g.p.id,g.p.seq,g.p.off,tm,shp,[]⟩,none,0⟩:=⟨_,rfl⟩;have T:=AP wc #[il i1.toNat,il g.p.id.toNat,il g.p.seq.toNat,il g.p.off.toNat,il tm.toNat,im shp.toNat,ir] 43;have I:=Af wc (.cells #[il i1.toNat,il g.p.id.toNat,il g.p.seq.toNat,il g.p.off.toNat,il tm.toNat,im shp.toNat,ir] 43);have HF:=gW (y11.keep I y11.z) (y5.keep I y5.z) (y8.keep I y8.z) T (Ah bF I) (AS bm I.size) (HG.o.1.low I);have bH:w3.heap.size<=wc.heap.size:=bm;clear y11 y5 y8 T I bF bm;go_upto_region 5 with fail
 generalize wc.alloc _=w4 at *;obtain⟨aj,aG⟩:∃b,b=wc.heap.size:=⟨_,rfl⟩;rw[<-aG];obtain⟨y11,y5,y8,T,am,bI,bJ⟩:=HF.o;have T:dH w4 aj (dO s1.p s1.A s1.c).toList:=by rw[aL];exact T.at_ aG.symm
 have HC:ga (w3.heap.size<=aj):=AB (by rw[aG];exact bH);have HE:ga (∀(W:World) (k:Int),Below w.heap.size w W->DfO w (λk=>¬M k) (.returned (.tuple #[.agg (dO s1.p s1.A s1.c),ir,io k])) (set7b W b8 (il s1.p.id.toNat) (il s1.p.par.toNat) (il s1.p.seq.toNat) (il s1.p.off.toNat) (il s1.p.tim.toNat) (im s1.p.sch.toNat) (.slice s1.A s1.p.ms.length s1.c))):=AB λW k hb=>SG (s:=s1) ⟨by rw[aL],by rw[aL]⟩ k hb (by have:=HB.o;omega);have bK:ga (s1.A=none/\s1.c=0/\s1.p.ms=[]):=AB (by rw[aL];exact⟨rfl,rfl,rfl⟩);clear p0 p2 p3 p4 e5 cn co aL HF aG bH;obtain⟨bn,bL⟩:∃b,d.rew=b:=⟨_,rfl⟩;obtain⟨e0,-,-,e3,e4⟩:=y5.c5;have p3:=y11.cell 3 _ rfl;have c3:=(H.o.2.1.low am).bx.cell 3 _ rfl;rw[bL]at e0;clear bL;obtain⟨bd,aC⟩:∃b,decide ((0:Int)<(d.drops.length:Int))=b:=⟨_,rfl⟩;obtain⟨bo,cp⟩:∃b,decide ((d.off.toNat:Int)<=(g.p.off.toNat:Int))=b:=⟨_,rfl⟩;obtain⟨bc,cq⟩:∃b,((x.cur.toNat:Int)==0)=b:=⟨_,rfl⟩;have H4:=gW y11 y5 y8 T am bI bJ;clear y11 y5 y8 T bI bJ;go_cut [68] from 60 to 68 (λv wx=>∃b,v = .bool b/\w4=wx);case first=>cases bn<;>cases bd<;>(go_wp2_with fail;go_meet;exact⟨_,rfl,rfl⟩)
 case rest=>
 obtain⟨b,rfl,hw⟩:=hcut;subst hw;cases b with
 | true=>
   have Y8:=H4.o.2.2.1;have YS:=H4.o.2.2.2.1;have k0:=Y8.cell 0 _ rfl;have q0:=Y8.free 0 gj;have n0:=YS.cell 0 _ rfl;have k1:=Y8.cell 1 _ rfl;have q1:=Y8.free 1 gj;have n1:=YS.cell 1 _ rfl;have k2:=Y8.cell 2 _ rfl;have q2:=Y8.free 2 gj;have n2:=YS.cell 2 _ rfl;have k3:=Y8.cell 3 _ rfl;have q3:=Y8.free 3 gj;have n3:=YS.cell 3 _ rfl;have k4:=Y8.cell 4 _ rfl;have q4:=Y8.free 4 gj;have n4:=YS.cell 4 _ rfl;have k5:=Y8.cell 5 _ rfl;have q5:=Y8.free 5 gj;have n5:=YS.cell 5 _ rfl;have k6:=Y8.cell 6 _ rfl;have q6:=Y8.free 6 gj;have n6:=YS.cell 6 _ rfl;have H8:=AB Y8;clear Y8 YS e0 e3 e4 p3 c3;(go_wp2_with fail);(try simp only[Exit.inBlock,Exit.then]);refine AW (Cm (b:=b8) rfl _ _ rfl H8.o.set7b) rfl ?_;exact HE.o w4 1 am
 | false=>
 go_upto_region 7 with fail
 go_cut [79] from 70 to 79 (λv wx=>∃b,v = .bool b/\w4=wx);case first=>cases bn<;>cases bo<;>(go_wp2_with fail;go_meet;exact⟨_,rfl,rfl⟩)
 case rest=>
 obtain⟨b,rfl,hw⟩:=hcut;subst hw;cases b with
 | true=>
   have Y8:=H4.o.2.2.1;have YS:=H4.o.2.2.2.1;have k0:=Y8.cell 0 _ rfl;have q0:=Y8.free 0 gj;have n0:=YS.cell 0 _ rfl;have k1:=Y8.cell 1 _ rfl;have q1:=Y8.free 1 gj;have n1:=YS.cell 1 _ rfl;have k2:=Y8.cell 2 _ rfl;have q2:=Y8.free 2 gj;have n2:=YS.cell 2 _ rfl;have k3:=Y8.cell 3 _ rfl;have q3:=Y8.free 3 gj;have n3:=YS.cell 3 _ rfl;have k4:=Y8.cell 4 _ rfl;have q4:=Y8.free 4 gj;have n4:=YS.cell 4 _ rfl;have k5:=Y8.cell 5 _ rfl;have q5:=Y8.free 5 gj;have n5:=YS.cell 5 _ rfl;have k6:=Y8.cell 6 _ rfl;have q6:=Y8.free 6 gj;have n6:=YS.cell 6 _ rfl;have H8:=AB Y8;clear Y8 YS e0 e3 e4 p3 c3;(go_wp2_with fail);(try simp only[Exit.inBlock,Exit.then]);refine AW (Cm (b:=b8) rfl _ _ rfl H8.o.set7b) rfl ?_;exact HE.o w4 220 am
 | false=>
 go_upto_region 9 with fail
 go_cut [90] from 81 to 90 (λv wx=>∃b,v = .bool b/\w4=wx);case first=>cases bn<;>cases bc<;>(go_wp2_with fail;go_meet;exact⟨_,rfl,rfl⟩)
 case rest=>
 obtain⟨b,rfl,hw⟩:=hcut;subst hw;cases b with
 | true=>
   have Y8:=H4.o.2.2.1;have YS:=H4.o.2.2.2.1;have k0:=Y8.cell 0 _ rfl;have q0:=Y8.free 0 gj;have n0:=YS.cell 0 _ rfl;have k1:=Y8.cell 1 _ rfl;have q1:=Y8.free 1 gj;have n1:=YS.cell 1 _ rfl;have k2:=Y8.cell 2 _ rfl;have q2:=Y8.free 2 gj;have n2:=YS.cell 2 _ rfl;have k3:=Y8.cell 3 _ rfl;have q3:=Y8.free 3 gj;have n3:=YS.cell 3 _ rfl;have k4:=Y8.cell 4 _ rfl;have q4:=Y8.free 4 gj;have n4:=YS.cell 4 _ rfl;have k5:=Y8.cell 5 _ rfl;have q5:=Y8.free 5 gj;have n5:=YS.cell 5 _ rfl;have k6:=Y8.cell 6 _ rfl;have q6:=Y8.free 6 gj;have n6:=YS.cell 6 _ rfl;have H8:=AB Y8;clear Y8 YS e0 e3 e4 p3 c3;(go_wp2_with fail);(try simp only[Exit.inBlock,Exit.then]);refine AW (Cm (b:=b8) rfl _ _ rfl H8.o.set7b) rfl ?_;exact HE.o w4 150 am
 | false=>
 have bM:=eR (H.o.1.low am) db _ (H.o.2.1.low am).bx g H4.o.2.2.2.2.2.2 (by have:=HG.o.2.1;omega) (λk=>¬M k/\k<w.heap.size) λv hv=>((H.o.1.kn.lin v hv).1.imp λk hk hl=>⟨hk,hl⟩).low am;obtain⟨p0,p1,p2,-,p4,p5,p6⟩:=H4.o.1.c7;clear e0 e3 e4 c3 aC cp cq;go_wp2_with fail
 refine bM.mono ?_;rintro e w5 ⟨A5,c5,o5,k,rfl,ad,aM,bN,bO⟩;have H5:=AB (And.intro (H4.o.1.keep ad H4.o.1.z) (And.intro (H4.o.2.1.keep ad H4.o.2.1.z) (And.intro (H4.o.2.2.1.keep ad H4.o.2.2.1.z) (And.intro (H4.o.2.2.2.1.keep ad H4.o.2.2.2.1.z) (And.intro (Ah am ad) (And.intro (AS H4.o.2.2.2.2.2.1 ad.size) (And.intro (H4.o.2.2.2.2.2.2.low ad) (And.intro aM (And.intro bN bO)))))))));have bP:=ad.size;clear ad aM bN bO bM p0 p1 p2 p3 p4 p5 p6;by_cases hk:k=0;rotate_left 1
 .have t1:(k != 0)=true:=by rw[Am];exact hk
  clear hk;go_upto_region 12 with fail
  have Y8:=H5.o.2.2.1;have YS:=H5.o.2.2.2.1;have k0:=Y8.cell 0 _ rfl;have q0:=Y8.free 0 gj;have n0:=YS.cell 0 _ rfl;have k1:=Y8.cell 1 _ rfl;have q1:=Y8.free 1 gj;have n1:=YS.cell 1 _ rfl;have k2:=Y8.cell 2 _ rfl;have q2:=Y8.free 2 gj;have n2:=YS.cell 2 _ rfl;have k3:=Y8.cell 3 _ rfl;have q3:=Y8.free 3 gj;have n3:=YS.cell 3 _ rfl;have k4:=Y8.cell 4 _ rfl;have q4:=Y8.free 4 gj;have n4:=YS.cell 4 _ rfl;have k5:=Y8.cell 5 _ rfl;have q5:=Y8.free 5 gj;have n5:=YS.cell 5 _ rfl;have k6:=Y8.cell 6 _ rfl;have q6:=Y8.free 6 gj;have n6:=YS.cell 6 _ rfl;have H8:=AB Y8;clear Y8 YS;go_wp2_with fail
  (try simp only[Exit.inBlock,Exit.then]);refine AW (Cm (b:=b8) rfl _ _ rfl H8.o.set7b) rfl ?_;exact HE.o w5 k H5.o.2.2.2.2.1
 subst hk;have aK:=H5.o.2.2.2.2.1;have aN:=H.o.2.2.1.dr.low aK;have bQ:d.drops.length<=9223372036854775807:=by have:=H.o.2.2.1.dn;omega
 have e3:=H5.o.2.1.cell 3 _ rfl;go_wp2_with fail
 go_loopw [15] (λiv wr=>∃i:Nat,iv = io i/\i<=d.drops.length/\w5=wr) (λiv _=>d.drops.length-(intOf iv).toNat);case atStart=>exact⟨0,rfl,AU _,rfl⟩
 case round=>
 obtain⟨i,rfl,hi,rfl⟩:=hrel;by_cases aD:i<d.drops.length
 .obtain⟨cr,so,aO,ct,aP⟩:=aN.rd.at_ gd;obtain⟨nm2,aQ⟩:∃n,d.drops[i]? = some n:=⟨_,BF aD⟩;have s0:=aP i (.string nm2) (by unfold AY;rw[DY,aQ];rfl);rw[aO]at e3;have bR:=eQ w5 A5 c5 o5 H5.o.2.2.2.2.2.2.2.1.row.rd nm2;clear aO aP aQ;go_wp2_with fail
  refine bR.mono ?_;rintro e w6 ⟨⟨b,rfl⟩,hw⟩;subst hw;clear bR;cases b with
  | true=>
    (go_wp2_with fail);go_roundw;case rel=>exact⟨i+1,by go_num,aD,trivial⟩
    case measure=>simp[intOf];omega
  | false=>
    have Y8:=H5.o.2.2.1;have YS:=H5.o.2.2.2.1;have k0:=Y8.cell 0 _ rfl;have q0:=Y8.free 0 gj;have n0:=YS.cell 0 _ rfl;have k1:=Y8.cell 1 _ rfl;have q1:=Y8.free 1 gj;have n1:=YS.cell 1 _ rfl;have k2:=Y8.cell 2 _ rfl;have q2:=Y8.free 2 gj;have n2:=YS.cell 2 _ rfl;have k3:=Y8.cell 3 _ rfl;have q3:=Y8.free 3 gj;have n3:=YS.cell 3 _ rfl;have k4:=Y8.cell 4 _ rfl;have q4:=Y8.free 4 gj;have n4:=YS.cell 4 _ rfl;have k5:=Y8.cell 5 _ rfl;have q5:=Y8.free 5 gj;have n5:=YS.cell 5 _ rfl;have k6:=Y8.cell 6 _ rfl;have q6:=Y8.free 6 gj;have n6:=YS.cell 6 _ rfl;have H8:=AB Y8;clear Y8 YS;(go_wp2_with fail);(try simp only[Exit.inBlock,Exit.then]);refine AW (Cm (b:=b8) rfl _ _ rfl H8.o.set7b) rfl ?_;exact HE.o w5 150 aK
 have bi:al.length<=1000000:=H.o.2.2.1.an;go_wp2_with fail
 clear e3 aN aD hi bQ;obtain⟨sq,bS⟩:∃q,g.p.seq+1=q:=⟨_,rfl⟩;have:IntKind.u64.wrap ((g.p.seq.toNat:Int)+1)=(sq.toNat:Int):=by rw[<-bS];exact Jv _
 clear bS;go_loopw [16,18] (λcu iv wr=>∃(i:Nat) (oA:Option Addr) (oc:Nat) (out:List El),cu = .slice oA out.length oc/\iv = io i/\i<=al.length/\out.length<=i/\wr.ownsRow w5.heap.size 97 6 (.slice oA out.length oc) out.length (out.flatMap elV)/\ga (∀y∈out,dM wr (λk=>¬M k/\k<w.heap.size) 10 y.A y.p.stats.length y.c (BH y.p.stats)/\y.p.name.size<=9223372036854775807)/\Below w5.heap.size w5 wr) (λ_ iv _=>al.length-(intOf iv).toNat);case atStart=>exact⟨0,none,0,[],rfl,rfl,AU _,AU _,Av _ _ _ _,AB (λy hy=>by cases hy),AC _ _⟩
 case round=>
 obtain⟨i,oA,oc,out,rfl,rfl,hi,cv,af,HI,ag⟩:=hrel;have ak:=Ah aK ag;have y5:=H5.o.2.1.keep ag H5.o.2.1.z;have y11:=H5.o.1.keep ag H5.o.1.z;have e2:=y5.cell 2 _ rfl;by_cases aD:i<al.length
 .obtain⟨xb,xo,bT,au,aR⟩:=((H.o.2.2.1.a.low ak).row.rd).elA aD;have aZ:=B9 aD;obtain⟨x0,aE⟩:∃v,al.getD i default=v:=⟨_,rfl⟩;obtain⟨f0,f1,f2,f3,f4,f5⟩:=aR x0 aE;rw[aE]at aZ;rw[bT]at e2;have aS:=(H.o.2.2.1.a.ins x0 aZ).imp (Q:=λk=>¬M k/\k<w.heap.size) λk hk hl=>⟨hk,hl⟩;have aT:=H.o.2.2.2 x0 aZ;have ao:=AP wr (eNV x0.p x0.A x0.c) 97;have I:=Af wr (.cells (eNV x0.p x0.A x0.c) 97);have p2:=(y11.keep I y11.z).cell 2 _ rfl;have av:=(y5.keep I y5.z).cell 0 _ rfl;have HQ:=gU I aS aT ao (Ag af I);have HL:=AB (λg hg=>(af.lt g hg).2);have cw:w5.heap.size<=wr.heap.size:=ag.size;clear aR aE aZ bT aS aT ao I y5 y11 af;obtain⟨bp,aw⟩:∃b,d.rew=b:=⟨_,rfl⟩;rw[aw]at av;clear aw;go_upto_region 24 with fail
  generalize wr.alloc _=w6 at *;obtain⟨bx,ao⟩:∃b,b=wr.heap.size:=⟨_,rfl⟩;rw[<-ao];obtain⟨I,aS,aT,Y,aU⟩:=HQ.o;have Y:=Y.at_ ao.symm;have cx:=AB ao;have aV:=Ah ag I;have g2:=Y.cell 2 _ rfl;have cy:=Y.free 2 gj;have HY:=AB Y;clear f0 f1 f2 f3 f4 f5 e2 Y ao;go_upto_if 133 with fail;go_cut [] from 134 to 143 (λwx=>∃y:El,dH wx bx (eNV y.p y.A y.c).toList/\ga (y.A=x0.A/\y.c=x0.c/\y.p.stats=x0.p.stats/\y.p.name=x0.p.name)/\dI (λk=>k=bx) w6 wx);case first=>
   cases bp with
   | false=>
     (go_wp2_with fail);go_meet;exact⟨{ x0 with p:= { x0.p with seq:=sq } },HY.o.set (j:=2) _ rfl,AB ⟨rfl,rfl,rfl,rfl⟩,Ba ((Oth.refl bx w6).set 2 _)⟩
   | true=>
     (go_upto_region 26 with fail);go_cut [142] from 138 to 142 (λv wx=>∃b,v = .bool b/\w6=wx);case first=>
      (go_wp2_with fail);go_meet;exact⟨_,rfl,rfl⟩
     case rest=>
     obtain⟨b2,rfl,cz⟩:=hcut;subst cz;cases b2 with
     | true=>
       have Y8:=H5.o.2.2.1.keep aV H5.o.2.2.1.z;have YS:=H5.o.2.2.2.1.keep aV H5.o.2.2.2.1.z;have k0:=Y8.cell 0 _ rfl;have q0:=Y8.free 0 gj;have n0:=YS.cell 0 _ rfl;have k1:=Y8.cell 1 _ rfl;have q1:=Y8.free 1 gj;have n1:=YS.cell 1 _ rfl;have k2:=Y8.cell 2 _ rfl;have q2:=Y8.free 2 gj;have n2:=YS.cell 2 _ rfl;have k3:=Y8.cell 3 _ rfl;have q3:=Y8.free 3 gj;have n3:=YS.cell 3 _ rfl;have k4:=Y8.cell 4 _ rfl;have q4:=Y8.free 4 gj;have n4:=YS.cell 4 _ rfl;have k5:=Y8.cell 5 _ rfl;have q5:=Y8.free 5 gj;have n5:=YS.cell 5 _ rfl;have k6:=Y8.cell 6 _ rfl;have q6:=Y8.free 6 gj;have n6:=YS.cell 6 _ rfl;have H8:=AB Y8;clear Y8 YS;(go_wp2_with fail);(try simp only[Exit.inBlock,Exit.then]);refine AW (Cm (b:=b8) rfl _ _ rfl H8.o.set7b) rfl ?_;exact HE.o w6 1 (Ah aK aV)
     | false=>
       (go_wp2_with fail);go_meet;exact⟨x0,HY.o,AB ⟨rfl,rfl,rfl,rfl⟩,.refl _ _⟩
  case rest=>
  obtain⟨y,Y,cA,m⟩:=hcut;clear g2 cy p2 av HY;obtain⟨n0,n1,n2,n3,n4,n5⟩:=Y.c6;have ao:=cx.o;have bU:=m.below (B:=w5.heap.size) (λk e=>gd) (AS cw I.size);have O:=aV.trans bU;have bq:=Bn (w':=wc) aU λq hg hl=>m.block q hl λe=>by have:=HL.o q hg;omega
  have zc:w5.heap.size<=wc.heap.size:=O.size;have bV:w.heap.size<=wr.heap.size:=ak.size;have cB:ga (Below w.heap.size wr wc):=AB ((I.mono bV).trans (m.below (B:=w.heap.size) (λk e=>gd) (AS bV I.size)));have bu:=gS aS aT ak;clear Y m bU aU ao aS aT ak I aV;go_wp2_with (at_builtin;refine FO (enc:=elV) E4 rfl (.tmp 144) (.tmp 146) rfl bq zc y Fa (Fb y) rfl rfl gd ?_;intro g9 c9 w9 h1 h2 _)
  go_roundw;case rel=>
   have bW:w.heap.size<=w5.heap.size:=aK.size;have ax:=cB.o.trans (h2.mono bW);refine⟨i+1,some ⟨g9,0,none⟩,c9,out++[y],by rw[AR];rfl,by go_num,aD,gt,h1,AB (λz hz=>?_),O.trans h2⟩;rcases List.mem_append.1 hz with hz|hz
   .exact⟨(HI.o z hz).1.lowB ax,(HI.o z hz).2⟩
   rw[BS.1 hz];obtain⟨a1,a2,a3,a4⟩:=cA.o;rw[a1,a2,a3,a4];exact⟨bu.o.1.lowB (bu.o.2.2.trans ax),bu.o.2.1⟩
  case measure=>simp[intOf];omega
 have T:=H5.o.2.2.2.1.keep ag H5.o.2.2.2.1.z;obtain⟨av,-,-,-,e4⟩:=y5.c5;have p2:=y11.cell 2 _ rfl;obtain⟨-,-,k2,k3⟩:=T.c4;obtain⟨-,-,q2,q3⟩:=T.f4;obtain⟨bp,aw⟩:∃b,d.rew=b:=⟨_,rfl⟩;rw[aw]at av;clear aw;have HW:=gV T y5 y11 af ag ak;have:out.length<=al.length:=AS cv hi;clear T y5 y11 af;go_upto_region 29 with fail
 go_upto_if 150 with fail;go_cut [] from 151 to 157 (λwx=>∃s2:Nl,dH wx aj (dO s2.p s2.A s2.c).toList/\ga (s2.A=none/\s2.c=0/\s2.p.ms=[])/\dI (λk=>k=aj) wr wx);case first=>
  cases bp with
  | true=>
    (go_wp2_with fail);go_meet;exact⟨s1,HW.o.1,bK,.refl _ _⟩
  | false=>
    (go_wp2_with fail);go_meet;exact⟨⟨{ s1.p with seq:=sq,off:=d.off },s1.A,s1.c⟩,(HW.o.1.set (j:=2) _ rfl).set (j:=3) _ rfl,bK,Ba (((Oth.refl aj wr).set 2 _).set 3 _)⟩
 case rest=>
 obtain⟨s2,T,ah,m⟩:=hcut;have a0:=HC.o;have m_:=m.size;have a5:=HB.o;have bW:w.heap.size<=w5.heap.size:=aK.size;have:aj<w5.heap.size:=H5.o.2.2.2.1.z;have O:Below w.heap.size w wc:=ak.trans (m.below (B:=w.heap.size) (λk e=>gd) (by have:=ag.size;omega));have y5:=m.box HW.o.2.1 gd;have y11:=m.box HW.o.2.2.1 gd;have y8:=m.box (H5.o.2.2.1.keep ag H5.o.2.2.1.z) gd;have af:=Bn HW.o.2.2.2.1 λq hg hl=>m.block q hl λe=>by have:=(HW.o.2.2.2.1.lt q hg).1;omega
 have aM:EnQ wc (λk=>(¬M k/\k<w.heap.size)\/w4.heap.size<=k) A5 c5 o5:=(H5.o.2.2.2.2.2.2.2.1.low ag).mst m λk hk e=>by
  have:=H4.o.2.2.2.1.z;rcases hk with hk|hk<;>omega
 have aN:=H.o.2.2.1.dr.low O;have a6:ga (∀y∈out,dM wc (λk=>¬M k/\k<w.heap.size) 10 y.A y.p.stats.length y.c (BH y.p.stats)/\y.p.name.size<=9223372036854775807):=AB λy hy=>⟨m.rdq (HI.o y hy).1 λk hk e=>gd,(HI.o y hy).2⟩;have bX:ga (∀(W:World) (k:Int),Below w.heap.size w W->DfO w (λk=>¬M k) (.returned (.tuple #[.agg (dO s2.p s2.A s2.c),ir,io k])) (set7b W b8 (il s2.p.id.toNat) (il s2.p.par.toNat) (il s2.p.seq.toNat) (il s2.p.off.toNat) (il s2.p.tim.toNat) (im s2.p.sch.toNat) (.slice s2.A s2.p.ms.length s2.c))):=AB λW k hb=>SG (s:=s2) ⟨by rw[show s2=⟨s2.p,s2.A,s2.c⟩ from rfl,ah.o.1,ah.o.2.1],ah.o.2.2⟩ k hb gd;have HV:=AB (And.intro T (And.intro y5 (And.intro y11 (And.intro y8 (And.intro af (And.intro aM (And.intro aN O)))))));have n0:=T.cell 0 _ rfl;clear k2 k3 q2 q3 p2 e2 e4 av T y5 y11 y8 af aM aN a5 a0 m HW HI;go_upto_region 32 with fail
 go_cut [160] from 158 to 160 (λv wx=>∃b,v = .bool b/\wc=wx);case first=>
  go_wp2_with fail
  go_meet;exact⟨_,rfl,rfl⟩
 case rest=>
 obtain⟨b,rfl,hw⟩:=hcut;subst hw;cases b with
 | true=>
   have Y8:=HV.o.2.2.2.1;have YS:=HV.o.1;have k0:=Y8.cell 0 _ rfl;have q0:=Y8.free 0 gj;have n0:=YS.cell 0 _ rfl;have k1:=Y8.cell 1 _ rfl;have q1:=Y8.free 1 gj;have n1:=YS.cell 1 _ rfl;have k2:=Y8.cell 2 _ rfl;have q2:=Y8.free 2 gj;have n2:=YS.cell 2 _ rfl;have k3:=Y8.cell 3 _ rfl;have q3:=Y8.free 3 gj;have n3:=YS.cell 3 _ rfl;have k4:=Y8.cell 4 _ rfl;have q4:=Y8.free 4 gj;have n4:=YS.cell 4 _ rfl;have k5:=Y8.cell 5 _ rfl;have q5:=Y8.free 5 gj;have n5:=YS.cell 5 _ rfl;have k6:=Y8.cell 6 _ rfl;have q6:=Y8.free 6 gj;have n6:=YS.cell 6 _ rfl;have H8:=AB Y8;clear Y8 YS n0;(go_wp2_with fail);(try simp only[Exit.inBlock,Exit.then]);refine AW (Cm (b:=b8) rfl _ _ rfl H8.o.set7b) rfl ?_;exact bX.o wc 6 O
 | false=>
 clear n0;have:o5.length<=576:=H5.o.2.2.2.2.2.2.2.2.1;have:d.drops.length<=1000000:=H.o.2.2.1.dn;go_wp2_with fail
 go_loopw [17,20] (λcC iv wr=>∃(i:Nat) (pA:Option Addr) (pc:Nat) (al3:List El),cC = .slice pA al3.length pc/\iv = io i/\i<=o5.length/\al3.length<=i/\wr.ownsRow wc.heap.size 97 6 (.slice pA al3.length pc) al3.length (al3.flatMap elV)/\ga (∀y∈al3,y∈o5)/\Below wc.heap.size wc wr) (λ_ iv _=>o5.length-(intOf iv).toNat);case atStart=>exact⟨0,none,0,[],rfl,rfl,AU _,AU _,Av _ _ _ _,AB (λy hy=>by cases hy),AC _ _⟩
 case round=>
 obtain⟨i3,pA,pc,al3,rfl,rfl,cX,cO,ae,a7,aa⟩:=hrel;have y5:=HV.o.2.1.keep aa HV.o.2.1.z;have e3:=y5.cell 3 _ rfl;have bY:=y5.z;have bZ:wc.heap.size<=wr.heap.size:=aa.size;by_cases aH:i3<o5.length
 .obtain⟨xb,xo,rfl,au,aR⟩:=(HV.o.2.2.2.2.2.1.low aa).row.rd.elA aH;have Z:=B9 aH;obtain⟨x0,aE⟩:∃v,o5.getD i3 default=v:=⟨_,rfl⟩;have b0:=aR x0 aE;rw[aE]at Z;have b1:=AB b0;have cD:=AB Z;clear aR aE Z b0 y5;go_wp2_with fail
  go_loopw [21,22] (λgv jv wq=>∃(j:Nat) (gb:Bool),gv = .bool gb/\jv = io j/\j<=d.drops.length/\Below wr.heap.size wr wq) (λ_ jv _=>d.drops.length-(intOf jv).toNat);case atStart=>exact⟨0,false,rfl,rfl,AU _,AC _ _⟩
  case round=>
  obtain⟨j,gb,rfl,rfl,hj,ab⟩:=hrel;have cE:=(ab.cell (p:=gX b5 3) bY).trans e3;clear e3;by_cases b7:j<d.drops.length
  .obtain⟨cr,so,aO,ct,aP⟩:=((HV.o.2.2.2.2.2.2.1.low aa).low ab).rd.at_ gd;obtain⟨nm2,aQ⟩:∃n,d.drops[j]? = some n:=⟨_,BF b7⟩;have s0:=aP j (.string nm2) (by unfold AY;rw[DY,aQ];rfl);have f0:=(ab.cell (p:=gX xb (xo+i3 * 6)) au).trans b1.o.1;rw[aO]at cE;obtain⟨eb,cY⟩:=ia (nm2.toList==x0.p.name.toList);clear aO aP aQ;cases gb<;>cases eb<;>(go_upto_region 41 with fail;go_quiet (fail);go_wp2_with fail;go_roundw;(case rel=>exact⟨j+1,_,rfl,by go_num,b7,CO ab _⟩);(case measure=>simp[intOf];omega))
  cases gb with
  | true=>
    (go_wp2_with fail);go_roundw;case rel=>exact⟨i3+1,pA,pc,al3,rfl,by go_num,aH,gd,Ag ae ab,a7,Ah aa ab⟩
    case measure=>simp[intOf];omega
  | false=>
    obtain⟨q0,q1,q2,q3,q4,q5⟩:=b1.o;have f0:=(ab.cell (p:=gX xb (xo+i3 * 6)) au).trans q0;have f1:=(ab.cell (p:=gX xb (xo+i3 * 6+1)) au).trans q1;have f2:=(ab.cell (p:=gX xb (xo+i3 * 6+2)) au).trans q2;have f3:=(ab.cell (p:=gX xb (xo+i3 * 6+3)) au).trans q3;have f4:=(ab.cell (p:=gX xb (xo+i3 * 6+4)) au).trans q4;have f5:=(ab.cell (p:=gX xb (xo+i3 * 6+5)) au).trans q5;have bv:=Ag ae ab;have ba:=Ah aa ab;have zq:wc.heap.size<=wr.heap.size:=ba.size;clear q0 q1 q2 q3 q4 q5 ae;go_wp2_with (at_builtin;refine FO (enc:=elV) E4 rfl (.tmp 191) (.tmp 196) rfl bv zq x0 Fa (Fb x0) rfl rfl gd ?_;intro g9 c9 w9 h1 h2 _)
    go_roundw;case rel=>exact⟨i3+1,some ⟨g9,0,none⟩,c9,al3++[x0],by rw[AR];rfl,by go_num,aH,gt,h1,AB (λz hz=>(List.mem_append.1 hz).elim (a7.o z) λe=>by rw[BS.1 e];exact cD.o),ba.trans h2⟩
    case measure=>simp[intOf];omega
 have be:=Ay (Ag HV.o.2.2.2.2.1 aa);have:Below w.heap.size w wr:=Ah O aa;clear y5 e3;go_upto_region 45 with (at_builtin;refine Aw _ E4 rfl (.tmp 198) (.tmp 199) rfl wc.heap.size _ al3.length (al3.flatMap elV) rfl ae wr.heap.size oA out.length oc (out.flatMap elV) rfl be (ei out) gd bZ ?_;intro v8 w8 aF cc _;obtain⟨bA,bk,rfl⟩:=BK aF)
 have V:=Au aa (AD _) ae cc bZ;have ai:Below w.heap.size w w8:=O.trans (V.mono O.size);have aI:w8.ownsRow wc.heap.size 97 6 (.slice bA (al3++out).length bk) (al3++out).length (Ax (al3++out)):=by rw[AR];unfold Ax;rw[List.flatMap_append];exact aF
 have:w4.heap.size<=wc.heap.size:=AS bP (AS ag.size m_);have:=HV.o.2.2.2.1.z;have cd:ga (EnQ w8 (λk=>(¬M k/\k<w.heap.size)\/w4.heap.size<=k) bA bk (al3++out)/\∀y∈al3++out,y.p.name.size<=9223372036854775807):=AB ⟨⟨dM.own aI (λk hk _=>.inr gd),λy hy=>(List.mem_append.1 hy).elim (λq=>(HV.o.2.2.2.2.2.1.low V).ins y (a7.o y q)) λq=>((a6.o y q).1.lowB (V.mono O.size)).imp λk hk _=>.inl hk⟩,λy hy=>(List.mem_append.1 hy).elim (λq=>H5.o.2.2.2.2.2.2.2.2.2 y (a7.o y q)) λq=>(a6.o y q).2⟩;have cF:ga (EnQ w8 (λk=>(¬M k/\k<w.heap.size)\/w4.heap.size<=k) oA oc out):=AB ⟨dM.own (Ag HV.o.2.2.2.2.1 V) (λk hk _=>.inr gd),λy hy=>((a6.o y hy).1.lowB (V.mono O.size)).imp λk hk _=>.inl hk⟩;have H8:=gT (HV.o.1.keep V HV.o.1.z) (HV.o.2.1.keep V HV.o.2.1.z) (HV.o.2.2.1.keep V HV.o.2.2.1.z) (HV.o.2.2.2.1.keep V HV.o.2.2.2.1.z);clear aF aI ae cc be V;by_cases cG:64<al3.length+out.length
 .have t1:decide ((64:Int)<((al3.length:Int)+(out.length:Int)))=true:=AF gd;have t2:=gG 64 ((al3.length+out.length:Nat));have Y8:=H8.o.2.2.2;have YS:=H8.o.1;have k0:=Y8.cell 0 _ rfl;have q0:=Y8.free 0 gj;have n0:=YS.cell 0 _ rfl;have k1:=Y8.cell 1 _ rfl;have q1:=Y8.free 1 gj;have n1:=YS.cell 1 _ rfl;have k2:=Y8.cell 2 _ rfl;have q2:=Y8.free 2 gj;have n2:=YS.cell 2 _ rfl;have k3:=Y8.cell 3 _ rfl;have q3:=Y8.free 3 gj;have n3:=YS.cell 3 _ rfl;have k4:=Y8.cell 4 _ rfl;have q4:=Y8.free 4 gj;have n4:=YS.cell 4 _ rfl;have k5:=Y8.cell 5 _ rfl;have q5:=Y8.free 5 gj;have n5:=YS.cell 5 _ rfl;have k6:=Y8.cell 6 _ rfl;have q6:=Y8.free 6 gj;have n6:=YS.cell 6 _ rfl;have H8:=AB Y8;clear Y8 YS;go_wp2_with fail
  (try simp only[Exit.inBlock,Exit.then]);refine AW (Cm (b:=b8) rfl _ _ rfl H8.o.set7b) rfl ?_;exact bX.o w8 4 ai
 have t1:decide ((64:Int)<((al3.length:Int)+(out.length:Int)))=false:=AG gd;have t2:=gH 64 ((al3.length+out.length:Nat));have av:=H8.o.2.1.cell 0 _ rfl;have g6:=H8.o.2.2.1.cell 6 _ rfl;obtain⟨cH,bg⟩:∃b,d.rew=b:=⟨_,rfl⟩;rw[bg]at av;clear bg cG;go_upto_region 47 with fail
 go_cut [212] from 205 to 212 (λv wx=>∃b,v = .bool b/\w8=wx);case first=>cases cH<;>(go_wp2_with fail;go_meet;exact⟨_,rfl,rfl⟩)
 case rest=>
 obtain⟨b,rfl,hw⟩:=hcut;subst hw;clear t1 t2 av;cases b with
 | true=>
   clear g6;have Y8:=H8.o.2.2.2;have YS:=H8.o.1;have k0:=Y8.cell 0 _ rfl;have q0:=Y8.free 0 gj;have n0:=YS.cell 0 _ rfl;have k1:=Y8.cell 1 _ rfl;have q1:=Y8.free 1 gj;have n1:=YS.cell 1 _ rfl;have k2:=Y8.cell 2 _ rfl;have q2:=Y8.free 2 gj;have n2:=YS.cell 2 _ rfl;have k3:=Y8.cell 3 _ rfl;have q3:=Y8.free 3 gj;have n3:=YS.cell 3 _ rfl;have k4:=Y8.cell 4 _ rfl;have q4:=Y8.free 4 gj;have n4:=YS.cell 4 _ rfl;have k5:=Y8.cell 5 _ rfl;have q5:=Y8.free 5 gj;have n5:=YS.cell 5 _ rfl;have k6:=Y8.cell 6 _ rfl;have q6:=Y8.free 6 gj;have n6:=YS.cell 6 _ rfl;have H8:=AB Y8;clear Y8 YS;(go_wp2_with fail);(try simp only[Exit.inBlock,Exit.then]);refine AW (Cm (b:=b8) rfl _ _ rfl H8.o.set7b) rfl ?_;have o:=EU w8 b8 (il s2.p.id.toNat) (il s2.p.par.toNat) (il s2.p.seq.toNat) (il s2.p.off.toNat) (il s2.p.tim.toNat) (im s2.p.sch.toNat) (.slice s2.A s2.p.ms.length s2.c);refine⟨s2,bA,bk,al3++out,0,(set7b w8 b8 (il s2.p.id.toNat) (il s2.p.par.toNat) (il s2.p.seq.toNat) (il s2.p.off.toNat) (il s2.p.tim.toNat) (im s2.p.sch.toNat) (.slice s2.A s2.p.ms.length s2.c)).heap.size,by rw[AR];rfl,ai.trans ((Ba o).below (B:=w.heap.size) (λk e=>by have:=HB.o;omega) ai.size),AS ai.size o.size,by rw[ah.o.1,ah.o.2.1,ah.o.2.2];exact Av _ _ _ _,by rw[ah.o.2.2];simp,by rw[ah.o.2.2];simp,?_,cd.o.2⟩;exact(cd.o.1.mst (Ba o) λk hk e=>by have:=HB.o;have:=H4.o.2.2.2.2.2.1;rcases hk with hk|hk<;>omega).imp λk hk hl=>⟨hk.imp And.left λq=>by have:=HB.o;have:=H4.o.2.2.2.2.2.1;omega,hl⟩
 | false=>
   have cI:=HG.o.2.1;have bh:=((HG.o.2.2.2.imp (Q:=λk=>¬M k/\k<w.heap.size) λk hk hl=>⟨hk,hl⟩).lowB ai).rd;have n6:=H8.o.1.cell 6 _ rfl;rw[ah.o.1,ah.o.2.1,ah.o.2.2]at n6;go_upto_region 50 with (at_builtin;refine Aw _ Ez rfl (.tmp 216) (.tmp 218) rfl w8.heap.size _ 0 [] rfl (Av _ _ _ _) w8.heap.size g.A g.p.ms.length g.c (AY g.p.ms) rfl bh (Hb _) gd (AD _) ?_;intro v9 w9 ap cf _;simp only[BL,CN]at ap;have ax:Below w8.heap.size w8 w9:=(Au (AC _ _) (AD _) (Av _ w8.heap.size 9 1) cf (AD _));obtain⟨mA,mk,rfl⟩:=BK ap;have Y9:=H8.o.1.keep ax H8.o.1.z;have k6:=Y9.cell 6 _ rfl;have q6:=Y9.free 6 gj;have cg:=gR Y9 ap;clear n6 cf Y9 ap)
   rename_i hret;have a5:=HB.o;have a0:=HC.o;have aW:w.heap.size<=w8.heap.size:=ai.size;obtain⟨s3,bw⟩:∃s3:Nl,s3=⟨{ s2.p with ms:=g.p.ms },mA,mk⟩:=⟨_,rfl⟩;have o6:=Ba ((Oth.refl aj w9).set 6 (.slice mA g.p.ms.length mk));have YS:dH (w9.setCell (gX aj 6) (.slice mA g.p.ms.length mk)) aj (dO s3.p s3.A s3.c).toList:=by rw[bw];exact cg.o.1.set (j:=6) _ rfl
   have Y8:=o6.box (H8.o.2.2.2.keep ax H8.o.2.2.2.z) gd;have aC:=(ai.trans (ax.mono aW)).trans (o6.below (B:=w.heap.size) (λk e=>gd) (AS aW ax.size));have aq:=o6.own cg.o.2 λk hk e=>by have:=H8.o.1.z;omega
   have aJ:=((cF.o.imp (Q:=λk=>((¬M k/\k<w.heap.size)\/w4.heap.size<=k)/\k<w8.heap.size) λk hk hl=>⟨hk,hl⟩).low ax).mst o6 λk hk e=>by have:=H4.o.2.2.2.1.z;rcases hk.1 with hk|hk<;>omega
   have HD:=gT aC aq aJ H8.o.2.2.2.z;have aX:ga (s3.A=mA/\s3.c=mk/\s3.p.ms=g.p.ms):=AB (by rw[bw];exact⟨rfl,rfl,rfl⟩);have ch:=gR Y8 YS;clear aC aq aJ YS Y8 bw k6 q6 g6 bh o6;generalize w9.setCell _ _=wd at *;have Y8:=ch.o.1;have YS:=ch.o.2;have k0:=Y8.cell 0 _ rfl;have q0:=Y8.free 0 gj;have n0:=YS.cell 0 _ rfl;have k1:=Y8.cell 1 _ rfl;have q1:=Y8.free 1 gj;have n1:=YS.cell 1 _ rfl;have k2:=Y8.cell 2 _ rfl;have q2:=Y8.free 2 gj;have n2:=YS.cell 2 _ rfl;have k3:=Y8.cell 3 _ rfl;have q3:=Y8.free 3 gj;have n3:=YS.cell 3 _ rfl;have k4:=Y8.cell 4 _ rfl;have q4:=Y8.free 4 gj;have n4:=YS.cell 4 _ rfl;have k5:=Y8.cell 5 _ rfl;have q5:=Y8.free 5 gj;have n5:=YS.cell 5 _ rfl;have k6:=Y8.cell 6 _ rfl;have q6:=Y8.free 6 gj;have n6:=YS.cell 6 _ rfl;have H8:=AB Y8;clear Y8 YS a5 a0;iterate 18 (first|go_values|go_skip|go_guarded|go_step|go_upon|go_back|skip)
   refine hret _ _ ?_;go_step;change bodyPost _ _ _ _ _ _;refine AW (Cm (b:=b8) rfl _ _ rfl H8.o.set7b) rfl ?_;have o:=EU wd b8 (il s3.p.id.toNat) (il s3.p.par.toNat) (il s3.p.seq.toNat) (il s3.p.off.toNat) (il s3.p.tim.toNat) (im s3.p.sch.toNat) (.slice s3.A s3.p.ms.length s3.c);have a5:=HB.o;have a0:=HC.o;obtain⟨aC,aq,aJ,cQ⟩:=HD.o;refine⟨s3,oA,oc,out,0,w8.heap.size,rfl,aC.trans ((Ba o).below (B:=w.heap.size) (λk e=>gd) aC.size),aW,?_,by rw[aX.o.2.2];exact cI,by rw[aX.o.2.2];exact HG.o.2.2.1,?_,λy hy=>(a6.o y hy).2⟩
   .have cJ:wd.ownsRow w8.heap.size 9 1 (.slice s3.A s3.p.ms.length s3.c) s3.p.ms.length (AY s3.p.ms):=by rw[aX.o.1,aX.o.2.1,aX.o.2.2];exact aq
    exact(Ba o).own cJ λk hk e=>gd
   exact(aJ.mst (Ba o) λk hk e=>by have:=H4.o.2.2.2.2.2.1;rcases hk.1 with hk|hk<;>omega).imp λk hk _=>⟨hk.1.imp And.left λq=>by have:=H4.o.2.2.2.2.2.1;omega,hk.2⟩
