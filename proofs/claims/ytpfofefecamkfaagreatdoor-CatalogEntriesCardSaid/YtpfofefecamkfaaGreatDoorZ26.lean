/- For CatalogEntries. -/
import Derived.Test.YtpfofefecamkfaaGreatDoorZ24
namespace Go.Proofs.YtpfofefecamkfaaGreatDoor
open Go.RowKit Proofs.Tryz
set_option maxRecDepth 100000
set_option maxHeartbeats 16000000
set_option linter.all false
theorem fN {w M S D R N rb kb K c tc lc s A tA lA}(h:RefQ w M S D R N rb kb K s A c tA tc lA lc)(hK:K<=700000)(A2 c2)(hr:dM w (λk=>¬M k) 4 A2 2 c2 (AZ two))(hf:Fr0 s\/Fr1 s):
 Calls prog 116 #[iq rb 0,.agg #[im 1,.slice A2 2 c2],iq kb 0] w (OpO M S D w rb kb (K+2)):=by
 have O:=Af w (.cells #[im 1,.slice A2 2 c2] 33);have xA:=AP w #[im 1,.slice A2 2 c2] 33;have H:=gT (h.low O) (hr.low O) O xA;clear O xA h hr;go_enter func116,ntmps116;go_upto_region 1 with fail
 generalize w.alloc _=w1 at *;obtain⟨b4,aG⟩:∃b,b=w.heap.size:=⟨_,rfl⟩;rw[<-aG];have xA:=H.o.2.2.2.at_ aG.symm;obtain⟨a0,a1⟩:=xA.c2;have aZ:Calls prog 30 #[.agg #[im 1,.slice A2 2 c2]] w1 λe w'=>e = .returned (io 0)/\Below w1.heap.size w1 w':=(MG w1 1 2 c2 A2 two H.o.2.1.rd).mono λe w' q=>⟨by rw[q.1,Gt.2.1];rfl,q.2⟩;have:=AB aG;clear aG;go_wp2_with fail
 refine aZ.mono ?_;rintro e w2 ⟨rfl,hb2⟩;clear aZ a0 a1;have aN:=Af w2 (.cells #[iq rb 0,ir,ir,il 0,.string ⟨#[]⟩] 81);have y9:=AP w2 #[iq rb 0,ir,ir,il 0,.string ⟨#[]⟩] 81;have aw:=Ah H.o.2.2.1 hb2;have ap:=Ah hb2 aN;have a2:=Ah aw aN;have ax:=xA.keep ap xA.z;have zw:=aw.size;have z3:w2.heap.size<(w2.alloc (.cells #[iq rb 0,ir,ir,il 0,.string ⟨#[]⟩] 81)).heap.size:=gj;have r3:=((H.o.1.addS ap (N2:=λk=>k=w2.heap.size) λk e=>by have:=hb2.size;omega).addD (b:=w2.heap.size) (.inr rfl) λq=>by have:=H.o.1.lt _ (H.o.1.sm _ q);have:=hb2.size;omega);have ay:dM (w2.alloc (.cells #[iq rb 0,ir,ir,il 0,.string ⟨#[]⟩] 81)) (λk=>¬Mo M (λk=>k=w2.heap.size) k) 4 A2 2 c2 (AZ two):=H.o.2.1.grw (Grw.addS (S:=λ_=>False) ap (N2:=λk=>k=w2.heap.size) λk e=>by have:=hb2.size;omega) λ_ q=>q.elim;have G3:Grw M S w (Mo M λk=>k=w2.heap.size) S (w2.alloc (.cells #[iq rb 0,ir,ir,il 0,.string ⟨#[]⟩] 81)):=Grw.addS a2 λk e=>gd;have H3:=gV r3 ay G3 y9 ax zw;have c5:=r3.st.bx.cell 5 _ rfl;have aH:=r3.st.bx.cell 2 _ rfl;have bm:=AB z3;clear r3 ay G3 y9 ax zw aN aw ap a2 hb2 xA z3 H;go_upto_region 5 with fail
 generalize w2.alloc _=w3 at *;obtain⟨b9,aO⟩:∃b,b=w2.heap.size:=⟨_,rfl⟩;rw[<-aO];rw[<-aO]at H3 bm;clear aO;obtain⟨M0,aP⟩:=ia (Mo M (λk=>k=b9));have bn:M0 b9:=by rw[<-aP];exact .inr rfl
 rw[aP]at H3;clear aP;have ad:Or1 D b9 b9:=.inr rfl;obtain⟨D0,aQ⟩:=ia (Or1 D b9);have HO:ga (∀w' M' S' s' x nm,Grw M S w M' S' w'->Eu w' M' S' D0 rb kb (K+2) s'->CdR w' M' D0 b9 rb x nm->Fr1 s'->OpO M S D w rb kb (K+2) (.returned (.tuple #[iq b9 0,io 0])) w'):=AB λw' M' S' s' x nm g r d f=>by
  rw[<-aQ]at r d;exact⟨b9,M',S',s',x,nm,rfl,H3.o.2.2.2.2.2,g,r,d,f⟩
 rw[aQ]at ad H3;clear aQ;rcases hf with ⟨f1,f2,f3,f4⟩|⟨f1,y,t,f2,f3,f4,f5⟩;rotate_left 1
 .rw[f1]at aH;have a3:=In H3.o.1 b9 _ _ _ _ H3.o.2.2.2.1 ad;have HF:=gU f1 f2 f3 f4 f5;clear f1 f2 f3 f4 f5;go_wp2_with fail
  refine a3.mono ?_;rintro e w4 ⟨k,rfl,m,hg,hor⟩;have hk:k=0:=hg y t HF.o.2.1 HF.o.2.2.1 HF.o.2.2.2.1 HF.o.2.2.2.2;subst hk;obtain⟨r3,_,G3,_⟩:=H3.o;have aI:¬S b9:=λq=>r3.sd b9 q ad;have r4:=r3.mst m λk e=>by rw[e];exact⟨bn,aI⟩
  have HR:ga (OpO M S D w rb kb (K+2) (.returned (.tuple #[iq b9 0,io 0])) w4):=AB (by
   rcases hor with ⟨_,x,nm,d4⟩|⟨q,_⟩
   .refine HO.o w4 M0 S s x nm ⟨?_,G3.mm,G3.mn,G3.rr,G3.rn⟩ ⟨_,_,_,_,_,_,_,_,r4.le gd⟩ d4 ⟨HF.o.1,y,t,HF.o.2⟩;exact((G3.m.imp (N:=λk=>S k\/k=b9) λk _ q=>.inl q).trans (m.imp λk _ q=>.inr q)).imp λk hk q=>q.elim id λe=>by have:=H3.o.2.2.2.2.2;omega
   .exact absurd rfl q)
  clear r3 G3 r4 hor m a3 c5 aH H3 hg;go_wp2_with fail
  go_ret2;exact HR.o
 rw[f2]at aH;have HF:=gT f1 f2 f3 f4;clear f1 f2 f3 f4;obtain⟨r3,ay,G3,y9,ax,zw⟩:=H3.o;obtain⟨e0,e1⟩:=ax.c2;have a4:=Af w3 (.cells #[im 1,.slice A2 2 c2] 33);have aR:=Af (w3.alloc (.cells #[im 1,.slice A2 2 c2] 33)) (.cells #[.slice (gY w3.heap.size 0) 1 1,ir,il 0] 39);have aj:=Ah a4 aR;obtain⟨t,ht⟩:∃t:Kt,t=⟨some ⟨w3.heap.size,0,none⟩,1,[⟨1,two,A2,c2⟩],none,0,[],0⟩:=⟨_,rfl⟩;have ae:dH ((w3.alloc (.cells #[im 1,.slice A2 2 c2] 33)).alloc (.cells #[.slice (gY w3.heap.size 0) 1 1,ir,il 0] 39)) (w3.heap.size+1) (dP t.sA t.ss.length t.sc t.nA t.ns.length t.nc t.cur.toNat).toList:=by rw[ht];exact(AP (w3.alloc _) _ _).at_ gj
 have ak:KtQ ((w3.alloc (.cells #[im 1,.slice A2 2 c2] 33)).alloc (.cells #[.slice (gY w3.heap.size 0) 1 1,ir,il 0] 39)) (λk=>¬M0 k) t:=by
  rw[ht];refine⟨⟨((Rd.lit (n:=1) (sz:=2) w3 33 #[im 1,.slice A2 2 c2] rfl gn).below (by simpa using aR)).more gj,λ_=>⟨_,_,rfl,λq=>Nat.lt_irrefl _ (r3.lt _ q)⟩⟩,λz hz=>?_,.nil _ _ _,gj⟩;rw[BS.1 hz];exact ay.low aj
 have am:t.ok:=by rw[ht];exact Gt.1
 obtain⟨bs,G⟩:=ia (wrS (t.ss.map dK) (t.ns.map dL));have a5:ga (bs.length<=20000):=AB (by rw[<-G,ht];exact Gt.2.2);have a6:((w3.alloc (.cells #[im 1,.slice A2 2 c2] 33)).alloc (.cells #[.slice (gY w3.heap.size 0) 1 1,ir,il 0] 39)).heap.size=w3.heap.size+2:=gj;have H4:=gW (r3.low aj) (G3.trans (.low aj)) (y9.keep aj y9.z) ae ak am G;have HZ:=gR a6 (λk q=>r3.lt k q);clear r3 ay G3 y9 ax a4 aR aj ae ak am G a6 ht;go_upto_region 13 with fail
 generalize (w3.alloc _).alloc _=w4 at *;obtain⟨I,az⟩:∃b,b=w3.heap.size+1:=⟨_,rfl⟩;rw[<-az];rw[<-az]at H4;have aq:ga (w3.heap.size<I/\I<w4.heap.size):=AB (by have:=HZ.o.1;omega);clear az aH e0 e1 c5;obtain⟨r4,G4,y9,ae,ak,am,G⟩:=H4.o;obtain⟨p0,p1,p2⟩:=ae.c3;have hw:=MK w4 t.sA t.sc t.ss t.nA t.nc t.ns t.cur.toNat ak.tab am.nm;clear r4 G4 y9 ae ak G;have aS:=AB am;clear am;go_wp2_with fail
 refine hw.mono ?_;rintro e w5 (⟨_,v,rfl,hown5,hb5⟩|⟨hno,_⟩);rotate_left 1
 .exact absurd (aS.o.symm.trans hno) gm
 obtain⟨B5,k5,rfl⟩:=BK hown5;obtain⟨r4,G4,y9,ae,ak,am,G⟩:=H4.o;rw[G]at hown5 ⊢;have h5:=r4.low hb5;have X:=ae.keep hb5 ae.z;obtain⟨q0,q1,q2⟩:=X.c3;have c0:=h5.kn.bx.cell 0 _ rfl;have zx:=X.z;have zk:=h5.kn.bx.z;have HB:ga (dM w5 (λk=>¬M0 k) 1 B5 bs.length k5 (AO bs)):=AB (dM.own hown5 λk hk _ q=>by have:=r4.lt k q;omega);have H5:=gV h5 (G4.trans (.low hb5)) (y9.keep hb5 y9.z) X (dJ.low ak hb5) G;have aK:Rd ((w5.alloc (.cells (dP t.sA t.ss.length t.sc t.nA t.ns.length t.nc t.cur.toNat) 39)).drew) (w5.heap.size+1) 3 (gY w5.heap.size 0) 1 1 (ktV t):=(Rd.lit (n:=1) (sz:=3) w5 39 (dP t.sA t.ss.length t.sc t.nA t.ns.length t.nc t.cur.toNat) rfl gn).below (AC _ _).drew;have O:Below w5.heap.size w5 ((w5.alloc (.cells (dP t.sA t.ss.length t.sc t.nA t.ns.length t.nc t.cur.toNat) 39)).drew):=((AC _ w5).alloc (AD _) _).drew;have h6:=h5.low O;have aT:s.kt.length<=800000:=AS h6.kn.kk.1 gd;have a7:=h6.kn.trow;have aU:=h6.kn.bx;have a8:=(O.cell (p:=gX I 0) zx).trans q0;have a9:=(O.cell (p:=gX I 1) zx).trans q1;have ba:=(O.cell (p:=gX I 2) zx).trans q2;have aJ:=aU.cell 0 _ rfl;have af:=gS h6 O aU;have V:=gW c0 aJ a8 a9 ba a7 aK;clear h6 O aU a7 aK a8 a9 ba aJ c0 h5 X r4 G4 y9 ae ak am G hown5 hw hb5 p0 p1 p2 H4;go_upto_region 16 with fail
 go_cut [] from 48 to 57 (λwx=>∃(g c2:Nat) (w8:World),ga (w8.ownsRow 0 39 3 (.slice (gY g 0) (s.kt++[t]).length c2) (s.kt++[t]).length ((s.kt++[t]).flatMap ktV)/\dI (λk=>(Value.slice tA s.kt.length tc).ownBlock=some k) ((w5.alloc (.cells (dP t.sA t.ss.length t.sc t.nA t.ns.length t.nc t.cur.toNat) 39)).drew) w8/\((Value.slice tA s.kt.length tc).ownBlock=some g\/((w5.alloc (.cells (dP t.sA t.ss.length t.sc t.nA t.ns.length t.nc t.cur.toNat) 39)).drew).heap.size<=g)/\g<w8.heap.size)/\wx=w8.setCell (gX kb 0) (.slice (gY g 0) (s.kt.length+1) c2));case first=>
  refine wp_region_held_drew (S:=λw'=>w'.cell? (gX I 0)=some (.slice t.sA t.ss.length t.sc)/\w'.cell? (gX I 1)=some (.slice t.nA t.ns.length t.nc)/\w'.cell? (gX I 2)=some (il t.cur.toNat)) gh ?_ (λhHeld=>?_)
  .exact⟨q0,q1,q2⟩
  clear q0 q1 q2;refine tK 0 ?_;refine tK 1 ?_;refine tK 2 ?_;refine tK 3 ?_;refine tK 5 ?_;refine wpAnyH_ready (rs:=[4,6]) gh gj ?_;refine AllReadyH.cons rfl (λK0 T=>?_) (AllReadyH.cons rfl (λK0 T=>?_) AllReadyH.nil);have c0:w5.drew.cell? (gX kb 0)=some (.slice tA s.kt.length tc):=V.o.1;go_simp;refine T.out _ _ hHeld (λhHeld=>?_);clear T K0 hHeld c0;refine ie ?_;refine rD 6 λK0 T=>?_;go_simp;refine T.out _ _ ⟨V.o.2.2.1,V.o.2.2.2.1,V.o.2.2.2.2.1⟩ (λhHeld=>?_);clear T K0;refine ie ?_;rotate_left 1;go_simp;refine T.out _ _ ⟨V.o.2.2.1,V.o.2.2.2.1,V.o.2.2.2.2.1⟩ (λhHeld=>?_);clear T K0;refine ie ?_;refine rD 4 λK0 T=>?_;have aJ:=V.o.2.1;go_simp;refine T.out _ _ hHeld (λhHeld=>?_);clear T K0 aJ;refine ie ?_;all_goals
   refine rD 7 λK0 T=>?_;refine S3 (enc:=ktV) S0 (.tmp 52) (.tmp 54) rfl V.o.2.2.2.2.2.1 t (Rz t) rfl rfl V.o.2.2.2.2.2.2 gd ?_;intro g c2 w8 h1 h2 h3 h4;have aV:=h2.box af.o.2.2 λq=>(af.o.1.kn.tat kb q).2 rfl;have:=aV.free 0 gj;have:=aV.cell 0 _ rfl;have zA:I<((w5.alloc (.cells (dP t.sA t.ss.length t.sc t.nA t.ns.length t.nc t.cur.toNat) 39)).drew).heap.size:=AV zx af.o.2.1.size;have nq:¬((Value.slice tA s.kt.length tc).ownBlock=some I):=λq=>by have:=HZ.o.2 _ (af.o.1.kn.sub _ (af.o.1.kn.tat _ q).1);have:=aq.o;omega
   have nk:I≠kb:=λe=>by have:=HZ.o.2 kb (af.o.1.kn.sub kb af.o.1.kn.kb_);have:=aq.o;omega
   have v0:=(h2.cell (p:=gX I 0) zA nq).trans V.o.2.2.1;have v1:=(h2.cell (p:=gX I 1) zA nq).trans V.o.2.2.2.1;have v2:=(h2.cell (p:=gX I 2) zA nq).trans V.o.2.2.2.2.1;have HA:=gT h1 h2 h3 h4;clear h1 h2 h3 h4 aV nq zA;refine T.out _ _ ⟨v0,v1,v2⟩ (λhHeld=>?_);clear T K0;refine ie ?_;refine tK 8 ?_;refine tK 9 ?_;refine rD 10 λK0 T=>?_;go_simp;refine T.out _ _ ⟨(CL (p:=gX kb 0) (q:=gX I 0) nk _).1.trans v0,(CL (p:=gX kb 0) (q:=gX I 1) nk _).1.trans v1,(CL (p:=gX kb 0) (q:=gX I 2) nk _).1.trans v2⟩ (λhHeld=>?_);clear T K0;refine wpAnyH_done gh ?_ _;(go_wp2_with fail);go_meet;exact⟨g,c2,w8,HA,rfl⟩
 case rest=>
 obtain⟨g,c3,w8,HA,bo⟩:=hcut;subst bo;obtain⟨h1,h2,h3,h4⟩:=HA.o;obtain⟨h6,O,_⟩:=af.o;obtain⟨h5,G5,y5,X5,be,G⟩:=H5.o;have aW:=dJ.low be O;have aX:=KnR.table h6.kn h6.lt t aW aS.o h1 h2 h3;have aL:∀k,Or1 M0 g k->k<(w8.setCell (gX kb 0) (.slice (gY g 0) (s.kt++[t]).length c3)).heap.size:=λk q=>by
  rw[World.size_setCell];exact q.elim (λr=>AV (h6.lt k r) h2.size) λe=>by rw[e];exact h4
 obtain⟨g9,r9⟩:=h6.know aX.1 aX.2 aL (Nat.le_succ K);have aI:¬S b9:=λq=>h5.sd b9 q ad;have au:=dJ.grw aW g9 h6.sm;have aY:=(HB.o.low O).grw g9 h6.sm;have X9:=g9.m.box (X5.keep O X5.z) (b:=I) λq=>by have:=HZ.o.2 _ (h6.sm _ q);have:=aq.o;omega
 have Y9:=g9.m.box (y5.keep O y5.z) aI;have G9:=(G5.trans (Grw.low O)).trans g9;have bg:ga (¬SoR S (Or1 N g) I):=AB λq=>by
  have:=aq.o;rcases r9.sm _ q with q|q
  .have:=HZ.o.2 _ q;omega
  rcases h3 with e|e
  .have:=HZ.o.2 _ (h6.kn.sub _ (h6.kn.tat g e).1);omega
  have:=O.size;omega
 rw[show(s.kt++[t]).length=s.kt.length+1 by simp]at g9 r9 au aY X9 Y9 G9;generalize w8.setCell _ _=w9 at *;have ab:¬(SoR S (Or1 N g)) b9:=λq=>r9.sd b9 q ad;have bh:=KF r9.st gd b9 _ Y9 (λq=>ab (r9.rs b9 q)) 116 B5 k5 bs aY;have H9:=gW r9 au X9 Y9 G9 ab G;clear h1 h2 h3 h4 HA af H5 h6 O h5 G5 y5 X5 be G aW aX aL g9 r9 au aY X9 Y9 G9 ab aI V HB zk zx aT q0 q1 q2;go_wp2_with fail
 refine bh.mono ?_;rintro e w10 ⟨nm2,k,q2,A3,e2,ts2,cs2,M2,R2,rfl,hnm2,g10,r10,aB,hgs⟩;obtain⟨hk,bp,A4,c4,aC⟩:=hgs HF.o.1 rfl (by have:=a5.o;omega) (by have:=a5.o;have:=HF.o.2.2.2;omega);subst hk bp;obtain⟨r9,au,X9,Y9,G9,ab,G⟩:=H9.o;obtain⟨gs,rs⟩:=r9.store g10 r10 (Nat.le_succ (K+1));have Z:¬SoR (SoR S (Or1 N g)) R2 b9:=λq=>rs.sd b9 q ad;have aa:=dJ.grw au gs r9.sm;have aD:=gs.m.box X9 bg.o;have aE:=gs.m.box Y9 ab;have bi:ga (¬SoR (SoR S (Or1 N g)) R2 I):=AB λq=>bg.o (gs.rn _ q X9.z);have aF:=G9.trans gs;have bj:=Rv rs.st ⟨#[]⟩ ⟨#[116,49]⟩ gm;have bk:=AB (And.intro rs (And.intro aa (And.intro aD (And.intro aE (And.intro aF (And.intro Z (And.intro (aB.trans HF.o.2.1) (And.intro aC G))))))));clear r9 au X9 Y9 G9 ab G gs rs Z aa aD aE aF g10 r10 H9 bh aB aC hgs;go_wp2_with fail
 refine bj.mono ?_;rintro e w11 ⟨k2,q3,A5,e3,ts3,cs3,M3,R3,rfl,g11,r11,ar,hsw3⟩;obtain⟨rs,aa,aD,aE,aF,Z,aB,aC,G⟩:=bk.o;obtain⟨bq,ao⟩:=hsw3 aB KE;subst bq;obtain⟨gs,rs2⟩:=rs.store g11 r11 (AD _);have ag:¬SoR (SoR (SoR S (Or1 N g)) R2) R3 b9:=λq=>rs2.sd b9 q ad;have ah:=dJ.grw aa gs rs.sm;have bl:=gs.m.box aD bi.o;have av:=gs.m.box aE Z;have ai:=aF.trans gs;have bu:=AB (And.intro rs2 (And.intro ah (And.intro av (And.intro ai (And.intro ag (And.intro ao (And.intro (ar.trans aC) G)))))));clear rs aa aD aE aF Z gs rs2 ah ai ag g11 r11 bk bj aB aC G ao ar hsw3;obtain⟨p0,p1,p2⟩:=bl.c3;obtain⟨-,d1,d2,d3,d4⟩:=av.c5;obtain⟨-,f1,f2,f3,f4⟩:=av.f5;clear bl av;go_wp2_with fail
 go_ret2;obtain⟨rs2,ah,av,ai,ag,ao,ar,G⟩:=bu.o;have o:=Ba (Gp w11 b9 (.slice t.sA t.ss.length t.sc) (.slice t.nA t.ns.length t.nc) (il t.cur.toNat) (.string ⟨#[116,49]⟩));have:=ai.mm;have aM:=rs2.dm b9 ad;refine HO.o _ _ _ _ t _ ⟨?_,ai.mm,ai.mn,ai.rr,ai.rn⟩ ⟨_,_,_,_,_,_,_,_,rs2.mst o λk q=>by rw[q];exact⟨aM,ag⟩⟩ (CdR.put av ad aM ah aS.o ⟨#[116,49]⟩) ⟨ao,_,t,ar,ao.symm,by show s.kt++[t]=[t];rw[HF.o.2.2.1];rfl,G⟩;exact((ai.m.imp (N:=λk=>S k\/k=b9) λk _ q=>.inl q).trans (o.imp λk _ q=>.inr q)).imp λk hk q=>q.elim id λe=>by have:=H3.o.2.2.2.2.2;omega
section
variable {w0 w w':World} {M S D M2 S2 U U2:Nat->Prop} {bb sb mb rb kb K K2:Nat} {s s2:So} {rs rs2:Rs} {L:List (Nat×Nat)} {p:Nat×Nat}
theorem Pr.step (h:Pr w M S D bb sb mb rb s p)(g:Grw M U w M2 U2 w')(hU:∀k,U k->M k/\k≠p.1/\k≠p.2)(hs:∀ns,MsF s ns->MsF s2 ns){D2}(hD:∀k,D k->D2 k)(hd:∀k,S2 k\/D2 k->k<w.heap.size->S k\/D k)(hl:∀k,M k->k<w.heap.size):Pr w' M2 S2 D2 bb sb mb rb s2 p:=by
 obtain⟨c,hC,ok,ms⟩:=h.C;obtain⟨x,nm,q⟩:=h.Q;refine⟨⟨c,hC.grw g λk u=>⟨(hU k u).1,(hU k u).2.1⟩,ok,hs _ ms⟩,g.mm _ h.mc,h.ne,λk u e=>?_,x,nm,?_⟩
 .exact h.dis k (hd k u (by rw[e];exact hl _ h.mc)) e
 have q2:=q.grw g λk u=>⟨(hU k u).1,(hU k u).2.2⟩;exact⟨q2.bx,q2.t,q2.ok,hD _ q2.d⟩
theorem Bp.put (h:Bp w0 w M S D bb sb mb rb kb K s rs L){L2:List (Nat×Nat)}(o:Oth bb w w')(hb:dH w' bb [iq sb 0,iq rb 0,ptr (L2[0]?.map Prod.fst),ptr (L2[1]?.map Prod.fst),ptr (L2[0]?.map Prod.snd),ptr (L2[1]?.map Prod.snd),iq kb 0])(hpr:∀p∈L2,Pr w M S D bb sb mb rb s p):
 Bp w0 w' M S D bb sb mb rb kb K s rs L2/\∀p∈L2,Pr w' M S D bb sb mb rb s p:=by
 obtain⟨R,N,A,k,tA,tk,lA,lk,r⟩:=h.R;have m:=Ba o;have hS:∀k,k=bb->M k/\¬S k:=λk e=>by rw[e];exact⟨h.mbb,λq=>(h.dis bb (.inl q)).2.2 rfl⟩
 refine⟨⟨h.lo,h.m.trans (m.imp λk _ e=>by rw[e];exact h.lo bb h.mbb),h.E.oth o h.mbb h.nb.1 h.nb.2,⟨R,N,A,k,tA,tk,lA,lk,r.mst m hS⟩,hb,h.mbb,h.dis,h.nb⟩,λp hp=>?_⟩;refine(hpr p hp).step (Grw.same m) (λk e=>⟨(hS k e).1,λq=>(hpr p hp).ne.2.2 (q.symm.trans e),λq=>?_⟩) (λ_ q=>q) (λk q=>q) (λk q _=>q) h.E.lt;obtain⟨x,nm,d⟩:=(hpr p hp).Q;exact(h.dis p.2 (.inr d.d)).2.2 (q.symm.trans e)
end
theorem fW {w0 w bb sb mb rb kb s1}(h:Bi w0 bb sb mb rb kb s1 0 w)(hS:Sound s1)(hA:∃c,(So.new 1000000).openC (1,two)=(s1,some c,0)/\c.t.ok/\MsF s1 c.t.ns)(hB:∃c,s1.openC (1,two)=(s1,some c,0)/\c.t.ok/\MsF s1 c.t.ns):
 Calls prog 55 #[iq bb 0] w λe w'=>e = .returned (.bool true)/\Bi w0 bb sb mb rb kb s1 2 w':=by
 have HI:=AB h;clear h;go_enter func55,ntmps55;go_wp2_with fail
 go_loopw [3] (λiv wr=>∃i:Nat,iv = io i/\i<=2/\ga (Bi w0 bb sb mb rb kb s1 i wr)) (λiv _=>2-(intOf iv).toNat);case atStart=>exact⟨0,rfl,gd,HI⟩
 case round=>
  clear HI;obtain⟨i,rfl,hi,HI⟩:=hrel;by_cases ah:i<2;rotate_left 1
  .have ax:i=2:=gd;subst ax;(go_wp2_with fail);go_ret;exact⟨rfl,HI.o⟩
  obtain⟨M,S,D,s,rs,LL,hp,hl,h0,h1,I,h2⟩:=HI.o;obtain⟨ca,ai,aj,ak⟩:∃c,s.openC (1,two)=(s1,some c,0)/\c.t.ok/\MsF s1 c.t.ns:=by
   by_cases e:i=0
   .rw[(h0 e).2];exact hA
   rw[(h1 e).2];exact hB
  have ay:Fr0 rs\/Fr1 rs:=by
   by_cases e:i=0
   .exact .inl (h0 e).1
   exact .inr (h1 e).1
  have am:∀ns,MsF s ns->MsF s1 ns:=λns q=>by
   by_cases e:i=0
   .rw[(h0 e).2]at q;intro n hn x hx;obtain⟨l,_,r⟩:=q n hn x hx;cases r
   rw[(h1 e).2]at q;exact q
  have b0:=hp.bx.cell 0 _ rfl;have HL:ga ((∀k,S k\/D k->k<wr.heap.size)/\sb<wr.heap.size/\mb<wr.heap.size/\bb<wr.heap.size):=AB ⟨λk q=>by obtain⟨_,_,_,_,_,_,_,_,r⟩:=hp.R;exact hp.E.lt k (q.elim (r.sm k) (r.dm k)),hp.E.lt _ hp.E.m1,hp.E.lt _ hp.E.m2,hp.bx.z⟩;have HP:=gT hp I hl h2;have HC:=gT ai aj ak am;have t9:=gG i 2;have az:=AB ah;clear ah;clear hp I hl h0 h1 h2 ai aj ak am;go_upto_region 4 with fail
  go_cut [4,5] from 12 to 20 (λv4 v5 wx=>∃cb,v4 = iq cb 0/\v5 = io 0/\ga (wr.heap.size<=cb/\Bp w0 wx (Ma M cb) S D bb sb mb rb kb (4 * i+2) s1 rs LL/\An wx (λk=>¬Ma M cb k) cb sb ca/\(∀p∈LL,Pr wx (Ma M cb) S D bb sb mb rb s1 p)/\wr.heap.size<=wx.heap.size));case first=>
   refine wp_region_held_drew (S:=λw'=>w'.cell? (gX bb 0)=some (iq sb 0)) gh ?_ (λhHeld=>?_)
   .exact b0
   have V:ga (∀w' U,dI U wr w'->¬U bb->w'.cell? (gX bb 0)=some (iq sb 0)):=AB λw' U m q=>(m.cell (p:=gX bb 0) HP.o.1.bx.z q).trans b0;clear b0;refine tK 0 ?_;refine tK 1 ?_;refine tK 2 ?_;refine tK 3 ?_;refine rD 4 λK0 G=>?_;go_simp;go_at_call 11;refine(KK wr.drew).mono ?_;rintro e w2 ⟨A2,c2,rfl,hr2,hb2⟩;have m2:dI (λ_=>False) wr w2:=(dI.refl _ _).drew.trans (.of hb2);refine G.out _ _ (V.o w2 _ m2 id) (λhHeld=>?_);clear G K0;refine ie ?_;refine rD 5 λK0 G=>?_;go_simp;go_at_call 10;have ao:=HP.o.1.E.grw (Grw.same m2) (λ_ q=>q.elim) λk q=>AV (HP.o.1.E.lt k q) m2.size;refine(Lw M w2 sb mb (4 * i) s ao gd 1 two A2 c2 (hr2.imp λk q _ e=>by have:=HP.o.1.E.lt k e;have:wr.heap.size<=k:=q;omega)).mono ?_;intro e w3 ae;obtain⟨cb,rfl,l1,l2,Z,ab,ap⟩:=Mj ae HC.o.1;have m3:dI (Ms sb mb) wr w3:=(m2.imp λ_ _ q=>q.elim).trans ap;have aB:¬Ms sb mb bb:=λq=>q.elim HP.o.1.nb.1 HP.o.1.nb.2;refine G.out _ _ (V.o w3 _ m3 aB) (λhHeld=>?_);clear G K0;refine ie ?_;refine tK 6 ?_;refine tK 7 ?_;refine tK 8 ?_;have H3:=gV l1 l2 Z ab m3 m2.size;clear l1 l2 Z ab ap m3 ae ao m2 hr2 hb2;refine rD 9 λK0 G=>?_;go_simp;refine G.out _ _ hHeld (λhHeld=>?_);clear G K0;refine ie ?_;refine rD 10 λK0 G=>?_;go_simp;refine G.out _ _ hHeld (λhHeld=>?_);clear G K0;refine ie ?_;refine wpAnyH_done gh ?_ _;(go_wp2_with fail);go_meet;refine⟨cb,rfl,rfl,AB ?_⟩;obtain⟨l1,l2,Z,ab,m3,z2⟩:=H3.o;obtain⟨hp,I,hl,h2⟩:=HP.o;have hU:∀k,Ms sb mb k->M k:=λk q=>by rcases q with q|q;exact q▸hp.E.m1;exact q▸hp.E.m2
   have aq:wr.heap.size<=cb:=AS z2 l1;have g:Grw M (Ms sb mb) wr (Ma M cb) (Ms sb mb) w3:=⟨m3,λk q=>.inl q,λk q hk=>q.elim id λe=>gd,λk q=>q,λk q _=>q⟩;have T:∀k,Ms sb mb k->¬(S k\/D k):=λk q r=>by rcases q with q|q;exact(hp.dis k r).1 q;exact(hp.dis k r).2.1 q
   obtain⟨R,N,A,k0,tA,tk,lA,lk,r⟩:=hp.R;refine⟨aq,⟨λk q=>q.elim (hp.lo k) λe=>by have:=hp.m.size;omega,hp.m.trans (m3.imp λk _ q=>hp.lo k (hU k q)),Z,⟨R,N,A,k0,tA,tk,lA,lk,(r.mo g (λk q=>⟨hU k q,λe=>T k q (.inl e)⟩) Z.lt).le gd⟩,m3.box hp.bx (λq=>q.elim hp.nb.1 hp.nb.2),.inl hp.mbb,hp.dis,hp.nb⟩,ab,λp O=>?_,m3.size⟩;refine(I p O).step g (λk q=>⟨hU k q,λe=>?_,λe=>?_⟩) HC.o.2.2.2 (λ_ q=>q) (λk q _=>q) hp.E.lt
   .rcases q with q|q
    .exact(I p O).ne.1 (e.symm.trans q)
    exact(I p O).ne.2.1 (e.symm.trans q)
   obtain⟨x,nm,qd⟩:=(I p O).Q;exact T k q (.inr (e▸qd.d))
  case rest=>
  obtain⟨cb,rfl,rfl,H4⟩:=hcut;clear b0;obtain⟨-,b1,-,-,-,-,b6⟩:=H4.o.2.1.bx.c7;go_upto_region 5 with fail
  go_cut [6,7] from 21 to 33 (λv6 v7 wx=>∃db,v6 = iq db 0/\v7 = io 0/\ga (∃M2 S2 D2 rs2,wc.heap.size<=db/\Bp w0 wx M2 S2 D2 bb sb mb rb kb (4 * i+4) s1 rs2 LL/\Fr1 rs2/\(∀p∈LL,Pr wx M2 S2 D2 bb sb mb rb s1 p)/\Pr wx M2 S2 D2 bb sb mb rb s1 (cb,db)));case first=>
   refine wp_region_held_drew (S:=λw'=>w'.cell? (gX bb 1)=some (iq rb 0)/\w'.cell? (gX bb 6)=some (iq kb 0)) gh ?_ (λhHeld=>?_)
   .exact⟨b1,b6⟩
   have V:ga (∀w' U,dI U wc w'->¬U bb->w'.cell? (gX bb 1)=some (iq rb 0)/\w'.cell? (gX bb 6)=some (iq kb 0)):=AB λw' U m q=>⟨(m.cell (p:=gX bb 1) H4.o.2.1.bx.z q).trans b1,(m.cell (p:=gX bb 6) H4.o.2.1.bx.z q).trans b6⟩;clear b1 b6;refine tK 0 ?_;refine tK 1 ?_;refine tK 2 ?_;refine tK 3 ?_;refine tK 5 ?_;refine tK 6 ?_;refine tK 7 ?_;refine tK 8 ?_;refine rD 4 λK0 G=>?_;go_simp;go_at_call 11;refine(KK wc.drew).mono ?_;rintro e w2 ⟨A2,c2,rfl,hr2,hb2⟩;have m2:dI (λ_=>False) wc w2:=(dI.refl _ _).drew.trans (.of hb2);refine G.out _ _ (V.o w2 _ m2 id) (λhHeld=>?_);clear G K0;refine ie ?_;refine rD 9 λK0 G=>?_;go_simp;go_at_call 116;obtain⟨R,N,A,k0,tA,tk,lA,lk,r⟩:=H4.o.2.1.R;have r2:=r.mst m2 λ_ q=>q.elim;refine(fN r2 gd A2 c2 (hr2.imp λk q _ e=>by have:=H4.o.2.1.E.lt k e;have:wc.heap.size<=k:=q;omega) ay).mono ?_;rintro e w3 ⟨db,M2,S2,s2,x,nm,rfl,l1,g3,r3,q3,f3⟩;have aa:¬S bb:=λq=>(H4.o.2.1.dis bb (.inl q)).2.2 rfl;have m3:dI S wc w3:=(m2.imp λ_ _ q=>q.elim).trans g3.m;refine G.out _ _ (V.o w3 _ m3 aa) (λhHeld=>?_);clear G K0;refine ie ?_;refine tK 10 ?_;refine tK 11 ?_;refine tK 12 ?_;have H5:=AB (And.intro l1 (And.intro g3 (And.intro r3 (And.intro q3 (And.intro f3 (And.intro m3 (And.intro m2 aa)))))));clear l1 g3 r3 q3 f3 m3 m2 r r2 hr2 hb2 aa;refine rD 13 λK0 G=>?_;go_simp;refine G.out _ _ hHeld (λhHeld=>?_);clear G K0;refine ie ?_;refine rD 14 λK0 G=>?_;go_simp;refine G.out _ _ hHeld (λhHeld=>?_);clear G K0;refine ie ?_;refine wpAnyH_done gh ?_ _;(go_wp2_with fail);go_meet;refine⟨db,rfl,rfl,AB ?_⟩;obtain⟨l1,g3,r3,q3,f3,m3,m2,aa⟩:=H5.o;obtain⟨aq,hp,hC,I,zz⟩:=H4.o;have ar:wc.heap.size<=db:=AS m2.size l1;have ad:∀k,S k->Ma M cb k:=by obtain⟨_,_,_,_,_,_,_,_,r⟩:=hp.R;exact r.sm
   have g:Grw (Ma M cb) S wc M2 S2 w3:=(Grw.same (m2.imp λ_ _ q=>q.elim)).trans g3;have aC:∀k,M2 k->k<w3.heap.size:=by obtain⟨_,_,_,_,_,_,_,_,r⟩:=r3;exact r.lt
   have af:∀k,S2 k\/Or1 D db k->k<wc.heap.size->S k\/D k:=λk q hk=>q.elim (λe=>.inl (g.rn k e hk)) λe=>e.elim .inr λe=>gd;have:=hp.E.lt sb hp.E.m1;have:=hp.E.lt mb hp.E.m2;have:=hp.bx.z;have:=hp.E.lt cb (.inr rfl);have:=hp.m.size;have T:∀k,S2 k\/Or1 D db k->k≠sb/\k≠mb/\k≠bb:=λk q=>by
    by_cases hk:k<wc.heap.size
    .exact hp.dis k (af k q hk)
    omega
   have au:∀k,S k\/D k->k≠cb:=λk q e=>by have:=HL.o.1 k q;omega
   refine⟨M2,S2,Or1 D db,s2,ar,⟨λk q=>?_,hp.m.trans (g.m.imp λk _ q=>hp.lo k (ad k q)),(hp.E.grw g (λk q=>⟨ad k q,(hp.dis k (.inl q)).1,(hp.dis k (.inl q)).2.1⟩) aC).more gd,?_,g.m.box hp.bx aa,g.mm _ hp.mbb,T,hp.nb⟩,f3,λp O=>?_,?_⟩
   .by_cases hk:k<wc.heap.size
    .exact hp.lo k (g.mn k q hk)
    omega
   .obtain⟨R,N,A,k0,tA,tk,lA,lk,r⟩:=r3;exact⟨R,N,A,k0,tA,tk,lA,lk,r.le gd⟩
   .refine(I p O).step g (λk q=>⟨ad k q,(I p O).dis k (.inl q),λe=>?_⟩) (λ_ q=>q) (λk q=>.inl q) af hp.E.lt;obtain⟨x2,nm2,qd⟩:=(I p O).Q;obtain⟨_,_,_,_,_,_,_,_,r⟩:=hp.R;exact r.sd k q (e▸qd.d)
   exact⟨⟨ca,hC.grw g λk q=>⟨ad k q,au k (.inl q)⟩,HC.o.2.1,HC.o.2.2.1⟩,g.mm _ (.inr rfl),(by show cb≠sb/\cb≠mb/\cb≠bb;have:=HL.o.2;omega),λk q=>by
    by_cases hk:k<wc.heap.size
    .exact au k (af k q hk)
    .show k≠cb;omega,x,nm,q3⟩
  case rest=>
  obtain⟨db,rfl,rfl,H5⟩:=hcut;clear b1 b6;obtain⟨M2,S2,D2,rs2,ar,hp,hf,I,hn⟩:=H5.o;have ag:∀p∈LL,p.1≠cb/\p.2≠db:=λp O=>by
   have a:=(HP.o.2.1 p O).mc;obtain⟨_,_,q⟩:=(HP.o.2.1 p O).Q;have b:=HP.o.1.E.lt _ a;have e:=HL.o.1 _ (.inr q.d);have:=H4.o.1;have g:=H4.o.2.2.2.2;omega
  have aD:=AB ag;have av:=gT hp hf I hn;have hl:=HP.o.2.2.1;have aw:i=0\/i=1:=by have:=az.o;omega
  clear t9;rcases aw with rfl|rfl
  .obtain rfl:=List.length_eq_zero_iff.1 hl;obtain⟨-,-,x2,x3,x4,x5⟩:=hp.bx.c6;have f2:=hp.bx.free 2 (by simp[ptr]);have f3:=hp.bx.free 3 (by simp[ptr]);have f4:=hp.bx.free 4 (by simp[ptr]);have f5:=hp.bx.free 5 (by simp[ptr]);clear hp hf I hn ag;(go_wp2_with fail);go_roundw;case rel=>
    obtain⟨hp,hf,I,hn⟩:=av.o;have bx:=(hp.bx.set (j:=2) (iq cb 0) rfl).set (j:=4) (iq db 0) rfl;obtain⟨a,b⟩:=hp.put (L2:=[(cb,db)]) (((Oth.refl bb _).set 2 (iq cb 0)).set 4 (iq db 0)) bx (λp q=>by rw[BS.1 q];exact hn);exact⟨1,by go_num,gd,AB ⟨M2,S2,D2,s1,rs2,[(cb,db)],a,rfl,λe=>gd,λ_=>⟨hf,rfl⟩,b,λp q e=>by simp at e⟩⟩
   case measure=>simp[intOf]
  obtain⟨p0,rfl⟩:=List.length_eq_one_iff.1 hl;obtain⟨-,-,x2,x3,x4,x5⟩:=hp.bx.c6;have f2:=hp.bx.free 2 (by simp[ptr]);have f3:=hp.bx.free 3 (by simp[ptr]);have f4:=hp.bx.free 4 (by simp[ptr]);have f5:=hp.bx.free 5 (by simp[ptr]);clear hp hf I hn ag;go_wp2_with fail
  go_roundw;case rel=>
   obtain⟨hp,hf,I,hn⟩:=av.o;have bx:=(hp.bx.set (j:=3) (iq cb 0) rfl).set (j:=5) (iq db 0) rfl;obtain⟨a,b⟩:=hp.put (L2:=[p0,(cb,db)]) (((Oth.refl bb _).set 3 (iq cb 0)).set 5 (iq db 0)) bx (λp q=>by rcases List.mem_cons.1 q with q|q;exact I p (by rw[q];simp);rw[BS.1 q];exact hn);exact⟨2,by go_num,gd,AB ⟨M2,S2,D2,s1,rs2,[p0,(cb,db)],a,rfl,λe=>gd,λ_=>⟨hf,rfl⟩,b,λp q e=>by
    simp only[List.cons.injEq,and_true]at e;obtain⟨rfl,rfl⟩:=e;exact aD.o _ (List.mem_cons_self ..)⟩⟩
  case measure=>simp[intOf]
theorem fX (w)(hT:Tabs w):Calls prog 21 #[io 1000000] w λe w'=>∃bb sb mb rb kb c0 c1 d0 d1,e = .returned (.tuple #[iq bb 0,.bool true])/\Bc w' (λk=>k<w.heap.size\/k=bb) sb mb rb kb c0 c1 d0 d1 8 /\
 dH w' bb [iq sb 0,iq rb 0,iq c0 0,iq c1 0,iq d0 0,iq d1 0,iq kb 0]/\dI (λk=>w.heap.size<=k) w w':=by
 obtain⟨s1,hS,hA,hB⟩:=fV;have hn:=SR w hT 1000000 gm gm;have HS:=gS hS hA hB;clear hS hA hB hT;go_enter func21,ntmps21;go_wp2_with fail
 refine hn.mono ?_;rintro e w1 ⟨sb,mb,rfl,l1,l2,G,I⟩;clear hn;have ab:=eG w1 (Ms sb mb) G.lt 1000000 ⟨gm,gm⟩;have HE:=gT l1 l2 G I;clear l1 l2 G I;go_wp2_with fail
 refine ab.mono ?_;rintro e w2 ⟨rfl,hR,T,Z⟩;clear ab;obtain⟨oK,ad⟩:∃o,o=Obj.cells #[ir,ir] 136:=⟨_,rfl⟩;obtain⟨oB,ae⟩:∃o,o=Obj.cells #[iq sb 0,iq w1.heap.size 0,.pointer none,.pointer none,.pointer none,.pointer none,iq w2.heap.size 0] 78:=⟨_,rfl⟩;have yK:dH ((w2.alloc oK).alloc oB) w2.heap.size [ir,ir]:=by rw[ad];exact(AP w2 _ _).al oB
 have yB:dH ((w2.alloc oK).alloc oB) (w2.heap.size+1) [iq sb 0,iq w1.heap.size 0,.pointer none,.pointer none,.pointer none,.pointer none,iq w2.heap.size 0]:=by rw[ae];exact(AP (w2.alloc oK) _ _).at_ gj
 have O:=Ah (Af w2 oK) (Af _ oB);have aa:((w2.alloc oK).alloc oB).heap.size=w2.heap.size+2:=gj;subst ad ae;have HR:=gW hR T Z yK yB O aa;clear hR T yK yB O aa Z;go_upto_region 2 with fail
 generalize (w2.alloc _).alloc _=w4 at *;have af:Bi w (w2.heap.size+1) sb mb w1.heap.size w2.heap.size s1 0 w4:=by
  obtain⟨l1,l2,G,I⟩:=HE.o;obtain⟨hR,T,Z,yK,yB,O,aa⟩:=HR.o;have V:=Ah T O;have:=I.size;have:=G.lt sb (.inl rfl);have:=G.lt mb (.inr rfl);have:=G.tb.z;have ai:=hR.bx.keep O hR.bx.z;have ag:∀k,Mo (Ms sb mb) (λk=>k=w1.heap.size\/k=w2.heap.size\/k=w2.heap.size+1) k->w.heap.size<=k/\k<w4.heap.size:=λk q=>by
   rcases q with (q|q)|q|q|q<;>omega
  refine⟨Mo (Ms sb mb) λk=>k=w1.heap.size\/k=w2.heap.size\/k=w2.heap.size+1,λk=>k=w1.heap.size\/k=w2.heap.size,λ_=>False,So.new 1000000,⟨1000000,[],ByteArray.empty,[],[]⟩,[],⟨λk q=>(ag k q).1,(dI.of I).trans (dI.of V),G.addS V λk q=>by rcases q with q|q|q<;>omega,⟨λk=>k=w1.heap.size,λk=>k=w2.heap.size,none,0,none,0,none,0,?_,?_,λk a b=>gd,λk q=>.inl q,λk q=>.inr q,λk q=>.inr (q.elim .inl λq=>.inr (.inl q)),λ_ _ q=>q,λ_ q=>q.elim⟩,yB,.inr (.inr (.inr rfl)),λk q=>q.elim (λq=>by rcases q with q|q<;>omega) λq=>q.elim,gd,gd⟩,rfl,λ_=>⟨⟨rfl,rfl,rfl,gm⟩,rfl⟩,λq=>absurd rfl q,λp q=>(Bf q).elim,λp q e=>by cases e⟩
  .exact⟨ai,Av _ _ _ _,λb off e=>(by cases e),λx q=>(Bf q).elim,hR.q0,rfl,λk q=>.inr (.inl q),λk q=>(ag k q).2,AU _,λx q=>(Bf q).elim⟩
  exact⟨yK,Av _ _ _ _,Av _ _ _ _,λg e=>(by cases e),λg e=>(by cases e),λg e=>(by cases e),λx q=>(Bf q).elim,λx q=>(Bf q).elim,rfl,λk q=>.inr (.inr (.inl q)),AU _,AU _⟩
 have ah:=fW af HS.o.1 HS.o.2.1 HS.o.2.2;clear af HE HR;go_wp2_with fail
 refine ah.mono ?_;rintro e w5 ⟨rfl,h5⟩;have H5:=AB h5;clear ah h5;go_wp2_with fail
 go_ret2;obtain⟨c0,c1,d0,d1,a,b,m⟩:=H5.o.bc HS.o.1;exact⟨_,sb,mb,_,_,c0,c1,d0,d1,rfl,a,b,m⟩
