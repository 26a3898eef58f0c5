/- For CatalogEntries. -/
import Derived.Test.YtpfofefecamkfaaGreatDoorZ1
import Derived.Test.YtpfofefecamkfaaGreatDoorZ7
namespace Go.Proofs.YtpfofefecamkfaaGreatDoor
open Go.RowKit Proofs.Tryz
set_option maxRecDepth 100000
set_option maxHeartbeats 16000000
set_option linter.all false
theorem FE (w b A c l er)(h:RdrA w b A c l er)(most:Nat)(_hm:most<18446744073709551616):
 Calls prog 169 #[iq b 0,il most] w (Tf w b (num most l er)):=by
 have:=h.c0;have c1:=h.c1;have:=h.f0;have:=h.f1;go_enter func169,ntmps169;by_cases he:er=0
 .subst he;have c1:w.cell? (gX b 1)=some (io 0):=h.c1;go_wp2_with fail
  refine(JB w b _ c A l h.rd).mono ?_;rintro e w1 ⟨rfl,rfl⟩;have:=AB (show(Var.get l).2.1<=10 from Var.get_used l);by_cases hg:(Var.get l).2.2=0
  .by_cases hb:most<(Var.get l).1
   .have HN:=AB (Td hg hb);obtain⟨g1,G⟩:∃g,g=(Var.get l).1:=⟨_,rfl⟩;rw[<-G]at hb ⊢;rw[hg];generalize (Var.get l).2.1=g2 at *;clear hg G;(go_wp2_with fail);go_ret;exact⟨by rw[HN.o];rfl,⟨A,c,by rw[HN.o];exact h.set1 40⟩,(Oth.refl b w).set 1 _⟩
   have HN:=AB (NQ hg hb);have hk:(Var.get l).2.1<=l.length:=(Var.get_ok (l:=l) (n:=(Var.get l).1) (k:=(Var.get l).2.1) (by rw[<-hg])).2.1;obtain⟨A2,l2,I,s1,s2,O⟩:=JC h.rd hk;rw[<-I]at HN;obtain⟨g1,G⟩:∃g,g=(Var.get l).1:=⟨_,rfl⟩;rw[<-G]at hb HN ⊢;rw[hg];generalize (Var.get l).2.1=g2 at *;have HR:=AB O;clear hg G I hk O;(go_wp2_with fail);go_ret;exact⟨by rw[HN.o];rfl,⟨A2,c-g2,by rw[HN.o];exact h.set0 HR.o⟩,(Oth.refl b w).set 0 _⟩
  have HN:=AB (Tc (most:=most) hg);obtain⟨g3,T⟩:∃g,g=(Var.get l).2.2:=⟨_,rfl⟩;rw[<-T]at hg HN ⊢;generalize (Var.get l).2.1=g2 at *;generalize (Var.get l).1=g1 at *;have t1:=gL g3 0;have:=gM g3 0;clear hg T;go_wp2_with fail
  go_ret;exact⟨by rw[HN.o];rfl,⟨A,c,by rw[HN.o];exact h.set1 g3⟩,(Oth.refl b w).set 1 _⟩
 have HN:=AB (Ta (most:=most) (l:=l) he);have t1:=gM er 0;clear he;go_wp2_with fail
 go_ret;exact⟨by rw[HN.o];rfl,⟨A,c,by rw[HN.o];exact h⟩,Oth.refl b w⟩
theorem Ua (w n c A l)(hr:Rd w w.heap.size 1 A n c (AO l))(hmax:l.length<=1000000):
 Calls prog 110 #[.slice A n c] w (UZ w l):=by
 obtain rfl:n=l.length:=by have:=hr.len;rw[Bt]at this;omega
 go_enter func110,ntmps110;go_wp2_with fail
 have x0:=AP w B3 33;have bl:=(hr.below (hI w (.cells B3 33))).more (show w.heap.size<=(w.alloc (.cells B3 33)).heap.size by simp);have bm:(w.alloc (.cells B3 33)).heap.size=w.heap.size+1:=gj;have bn:=hI w (.cells B3 33);generalize w.alloc _=wa at *;rw[<-bm];have h0:=TZ wa bl 249;have a1:=hI wa (.cells #[.slice A l.length c,io 0] 249);have a2:=x0.keep a1 x0.z;have a3:Oth wa.heap.size w (wa.alloc (.cells #[.slice A l.length c,io 0] 249)):=(Oth.of bn).trans (.of a1);generalize wa.alloc _=wb at *;obtain⟨B0,a4⟩:=ib w.heap.size;obtain⟨b,hb⟩:=ib wa.heap.size;rw[<-hb]at h0 a3 ⊢;rw[<-a4]at a2 ⊢;have bV:B0<b:=gd;have aq:w.heap.size<=B0:=Cz a4.symm;have aQ:w.heap.size<=b:=gd;clear bl bm bn a1 x0 a4 hb hr;refine(FE wb b A c l 0 h0 4294967295 gm).mono ?_;rintro e w1 ⟨rfl,⟨A1,c1,h1⟩,ho1⟩;have I:=GW 4294967295 l 0;have aR:=GC 4294967295 l 0;obtain⟨r,hr⟩:=ib (num 4294967295 l 0);rw[<-hr]at h1 I aR ⊢;obtain⟨n1,l1,e1⟩:=r;dsimp only at h1 I aR ⊢;obtain⟨id,rfl⟩:∃id:UInt32,n1=id.toNat:=⟨UInt32.ofNat n1,(ID gd).symm⟩;have HA:=AB hr;have x1:=a2.oth ho1 gd;have aU:=a3.trans ho1;have a5:(id.toNat:Int) % 4294967296=(id.toNat:Int):=gd;have aF:IntKind.u32.wrap (id.toNat:Int)=(id.toNat:Int):=by rw[IntKind.wrap_u32];omega
 have bo:=AB aR;clear hr a3 h0 a2 aR;go_wp2_with fail
 obtain⟨xs,a6⟩:=gZ w1 #[im id.toNat,ir] 33;have h2:=h1.keep a6;have x2:=x1.keep a6 x1.z;have bp:=aU.alloc (.cells #[im id.toNat,ir] 33);have o1:b<w1.heap.size:=h1.z;have o2:B0<w1.heap.size:=x1.z;have o4:w.heap.size<=w1.heap.size:=AS aq (Ad o2);generalize w1.alloc _=w2 at *;generalize w1.heap.size=bs at *;have G2:GU w B0 b bs id A1 c1 l1 e1 none 0 [] w2:=⟨h2,xs,Av _ _ _ _,x2,bp,o1,o2,gd,o4⟩;refine(FE w2 b A1 c1 l1 e1 h2 8 gm).mono ?_;rintro e w3 ⟨rfl,⟨A2,c2,h3⟩,ho3⟩;have aV:=GW 8 l1 e1;have a7:=GC 8 l1 e1;obtain⟨r,hr⟩:=ib (num 8 l1 e1);rw[<-hr]at h3 aV a7 ⊢;obtain⟨N,l2,e2⟩:=r;dsimp only at h3 aV a7 ⊢;have G3:=G2.go h3 ho3;have HN:=AB hr;obtain⟨Q,hQ⟩:=ia (DI N l2 e2 []);have HQ:=AB hQ;have bq:=OS N l2 e2 [];rw[hQ]at bq;have bW:ga (Q.2.1.length<=1000000):=AB (by have:=bo.o;omega);clear hr hQ bq a7 a5 aF a6 G2 ho3 h3 h2 x2 bp xs ho1 aU h1 x1 I bo;go_wp2_with fail
 go_loopw [7] (GUR w B0 b bs id Q) (λiv _=>(intOf iv).toNat);case atStart=>exact⟨N,A2,c2,l2,e2,none,0,[],rfl,gt,HQ,G3⟩
 case round=>
  clear G3;obtain⟨m,A',c',l',e',fA,fc,fs,rfl,bu,aS,G⟩:=hrel;by_cases he:e'=0
  .subst he;have k1:wr.cell? (gX b 1)=some (io 0):=G.rd.c1;by_cases hm:m=0
   ·
    have hq:=NS (m:=m) (l:=l') (e:=0) (fs:=fs) (.inl hm);have ar:=aS.o;rw[hq]at ar;have au:=AB ar;have bX:ga (l'.length<=1000000):=AB (by have:=bW.o;rw[<-au.o]at this;exact this);have t1:¬ 0<m:=gd;obtain⟨s0,s1⟩:=G.bx.c2;clear hq ar hm bu;(go_wp2_with fail);refine(Fr wr id _ fc fA fs G.rdF).mono ?_;rintro e w5 ⟨rfl,hb5⟩;have G4:=G.call hb5;have GX:=G4.why (check id fs);have HS:ga (rdS l 0=⟨id,fs,l',check id fs⟩):=AB (by have:=KZ HA.o HN.o (HQ.o.trans au.o.symm);simpa using this);have d1:=G4.rd.c1;have d2:=G4.rd.f1;have d0:=G4.rd.c0;obtain⟨v0,v1⟩:=G4.bx.c2;obtain⟨r0,r1⟩:=G4.rb.c2;obtain⟨bv,bw⟩:=G4.rb.f2;have n1:b≠bs:=gd;have n2:b≠B0:=gd;have n3:bs≠b:=gd;have n4:B0≠b:=gd;have ak:=AB GX;clear GX G4 G hb5 k1 s0 s1;by_cases aG:check id fs=0
    .have t3:((check id fs:Int) != 0)=false:=by rw[aG];rfl
     have am:ga (rdS l 0=⟨id,fs,l',0⟩):=AB (by rw[HS.o,aG]);generalize check id fs=ck at *;clear aG HS;(go_wp2_with fail);have GX:=ak.o;have e0:=GX.rd.c0;obtain⟨e1,e2⟩:=GX.bx.c2;obtain⟨e3,e4⟩:=GX.rb.c2;obtain⟨e5,e6⟩:=GX.rb.f2;have aW:Rd (w5.setCell (gX b 1) (io ck)) b 1 A' l'.length c' (AO l'):=GX.rd.rd;have bB:b<=(w5.setCell (gX b 1) (io ck)).heap.size:=Ad GX.rd.z;have a9:=gR aW bB;clear d0 d1 d2 v0 v1 r0 r1 bv bw aW bB GX;generalize w5.setCell _ _=w6 at *;have nb1:bs≠B0:=gd;go_region_held3 (λw'=>w'.cell? (gX b 0)=some (.slice A' l'.length c')/\w'.cell? (gX bs 0)=some (im id.toNat)/\w'.cell? (gX bs 1)=some (.slice fA fs.length fc)) (first|exact⟨bC,bD,bE⟩|exact⟨e0,e1,e2⟩|exact⟨Hk n2 bC _ _,Hk nb1 bD _ _,Hk nb1 bE _ _⟩|go_keep)
      (first|(go_at_call 107;refine(UW w6.drew b l'.length c' A' (AO l') a9.o.1.drew (Bb l') (by have:=bX.o;omega) a9.o.2).mono ?_;rintro e w7 ⟨v7,rfl,hown7,hb7⟩;have aX:=BY hb7;have G7:=ak.o.call aX;have bC:=G7.rd.c0;have bD:=G7.bx.cell 0 _ rfl;have bE:=G7.bx.cell 1 _ rfl;have b0:=G7.rb.cell 0 _ rfl;have b1:=G7.rb.cell 1 _ rfl;have b2:=G7.rb.free 0 gj;have b5:=G7.rb.free 1 gj))
     all_goals (try go_wp2_with fail)
     all_goals (try simp only[Exit.inBlock,Exit.then])
     all_goals
      have G7:=ak.o.call aX;obtain⟨y1,_,y3,y4,y5⟩:=G7.fin (im id.toNat) (.slice fA fs.length fc);have ba:B0<w6.drew.heap.size:=AV bV a9.o.2;have ho:=B6 (B6 hown7 (a:=gX B0 0) ba (im id.toNat)) (a:=gX B0 1) ba (.slice fA fs.length fc);obtain⟨Ac,cc,q,b7⟩:=Rd.of_own ho;subst q;refine AW (JD (b:=B0) (x:=im id.toNat) (y:=.slice fA fs.length fc) rfl _ _ rfl y4 y5) rfl ?_;obtain⟨q1,q2,q3⟩:=OT am.o;refine⟨fA,fc,Ac,cc,?_,?_,?_,(y3 aq).belowB aQ (AD _)⟩
      .rw[q1,q2,q3,am.o];rfl
      .rw[q2];exact B4 (B6 (B6 G7.own (a:=gX B0 0) (Nat.lt_succ_of_lt G7.o2) _) (a:=gX B0 1) (Nat.lt_succ_of_lt G7.o2) _) (Nat.le_succ_of_le G7.o4)
      rw[q3];exact B4 ho (AS aq (Ad ba))
    have t3:=gM (check id fs) 0;have am:ga ((rdS l 0).err=check id fs/\(rdS l 0).err≠0):=AB (by rw[HS.o];exact⟨rfl,aG⟩);generalize check id fs=ck at *;clear aG HS;(go_wp2_with fail);have GX:=ak.o;have e0:=GX.rd.c1;obtain⟨e3,e4⟩:=GX.rb.c2;obtain⟨e5,e6⟩:=GX.rb.f2;have aH:b≠B0:=gd;have bF:B0≠b:=gd;clear GX;clear d0 d1 d2 v0 v1 r0 r1 bv bw;generalize w5.setCell _ _=w6 at *;go_region_held3 (λw'=>w'.cell? (gX b 1)=some (io ck)) (first|exact e0|exact Hk aH e0 _ _|go_keep) (fail)
    all_goals (try go_wp2_with fail)
    all_goals (try simp only[Exit.inBlock,Exit.then])
    all_goals
     obtain⟨y1,_,y3,y4,y5⟩:=(ak.o.call ((AC _ w6).drew)).fin (im 0) ir;refine AW (JD (b:=B0) (x:=im 0) (y:=ir) rfl _ _ rfl y4 y5) rfl ?_;obtain⟨q1,q2,q3⟩:=L5 am.o.2;refine⟨none,0,none,0,?_,?_,?_,(y3 aq).belowB aQ (AD _)⟩
     .rw[q1,q2,q3,am.o.1];rfl
     .rw[q2];exact Av _ _ _ _
     rw[q3];exact Av _ _ _ _
   
   have hq:=aS.o;have bG:0<m:=Nat.pos_of_ne_zero hm;rw[show m=(m-1)+1 by omega,NT]at hq;have au:=AB hq;have t1:=gG 0 m;have HM:=AB bG;clear hq hm aS bG;(go_wp2_with fail);refine(FE wr b A' c' l' 0 G.rd 4294967295 gm).mono ?_;rintro e w4 ⟨rfl,⟨A4,c4,rd4⟩,ho4⟩;have I:=GW 4294967295 l' 0;obtain⟨r,hr⟩:=ia (num 4294967295 l' 0);rw[hr]at rd4 I ⊢;obtain⟨a,l4,e4⟩:=r;dsimp only at rd4 I ⊢;obtain⟨fid,rfl⟩:∃id:UInt32,a=id.toNat:=⟨UInt32.ofNat a,(ID gd).symm⟩;have be:=AB hr;have a5:(fid.toNat:Int) % 4294967296=(fid.toNat:Int):=gd;have aF:IntKind.u32.wrap (fid.toNat:Int)=(fid.toNat:Int):=by rw[IntKind.wrap_u32];omega
   clear hr I k1;(go_wp2_with fail);obtain⟨bg,bH⟩:=gZ w4 #[im fid.toNat,.string ⟨#[]⟩,ip 0,.bool false] 89;have bI:=rd4.keep bH;have bJ:=ho4.alloc (.cells #[im fid.toNat,.string ⟨#[]⟩,ip 0,.bool false] 89);have zf:wr.heap.size<=w4.heap.size:=ho4.size;have zb:b<w4.heap.size:=rd4.z;clear a5 aF bH rd4 ho4;generalize w4.alloc _=w5 at *;generalize w4.heap.size=bf at *;simp only[]at bg;refine(FE w5 b A4 c4 l4 e4 bI 16 gm).mono ?_;rintro e w6 ⟨rfl,⟨A6,c6,rd6⟩,ho6⟩;have I:=GW 16 l4 e4;obtain⟨r,hr⟩:=ia (num 16 l4 e4);rw[hr]at rd6 I ⊢;have bh:=AB hr;have ag:=bg.oth ho6 gd;have aa:=bJ.trans ho6;clear hr bJ ho6 bI bg;obtain⟨sz,l6,e6⟩:=r;dsimp only at rd6 I ⊢;have bY:l6.length<9223372036854775808:=by have:=rd6.rd.le;have:=rd6.rd.cap;unfold maxLen at *;omega
   have k0:=rd6.c0;have f0:=rd6.f0;have f1:=rd6.f1;have bK:b≠bf:=Cy zb;have bZ:bf≠b:=λq=>bK q.symm;by_cases bi:e6=0
   .subst bi;by_cases hl:l6.length<sz
    ·
     have k1:w6.cell? (gX b 1)=some (io 0):=rd6.c1;obtain⟨q1,q2,q3⟩:=Tj (r:=(sz,l6,0)) rfl hl;have bL:=gS q2 q3 q1;have ao:=rd6.set1 30;have ap:=aa.set 1 (io 30);have bM:=ag.else (p:=gX b 1) bK (io 30);obtain⟨nm,aE⟩:∃nm:ByteArray,(⟨#[]⟩:ByteArray)=nm:=⟨_,rfl⟩;clear q1 q2 q3 rd6 ag aa;(go_wp2_with fail);have ap:Oth b wr (w6.setCell (gX b 1) (io 30)):=ap;have ao:RdrA (w6.setCell (gX b 1) (io 30)) b A6 c6 l6 30:=ao;clear k0 k1 f0 f1;generalize w6.setCell _ _=w7 at *;have O:ga (Ey (sz,l6,0)=nm/\Dd (sz,l6,0)=l6/\DA (sz,l6,0)=30):=AB (by rw[<-aE];exact bL.o);have ad:dH w7 bf [im fid.toNat,.string nm,ip 0,.bool false]:=by rw[<-aE];exact bM
     clear aE bM bL;refine(FE w7 b A6 c6 l6 30 ao 255 gm).mono ?_;rintro e w8 ⟨rfl,⟨A8,c8,rd8⟩,ho8⟩;have I:=GW 255 l6 30;obtain⟨r2,hr⟩:=ia (num 255 l6 30);rw[hr]at rd8 I ⊢;obtain⟨a,l8,e8⟩:=r2;dsimp only at rd8 I ⊢;obtain⟨kd,rfl⟩:∃kd:UInt8,a=kd.toNat:=⟨UInt8.ofNat a,(J2 gd).symm⟩;have aI:=AB hr;have a8:(kd.toNat:Int) % 256=(kd.toNat:Int):=gd;have aJ:IntKind.u8.wrap (kd.toNat:Int)=(kd.toNat:Int):=by rw[IntKind.wrap_u8];omega
     have ab:=ad.oth ho8 gd;have ae:=ap.trans ho8;have u1:=ab.cell 2 _ rfl;have u2:=ab.free 2 gj;clear hr I ap ho8 ao ad;(go_wp2_with fail);have av:=rd8.elsewhere (p:=gX bf 2) zb (ip kd.toNat);have aw:=ae.setNew (p:=gX bf 2) zf (ip kd.toNat);have ah:=ab.set (j:=2) (ip kd.toNat) rfl;clear u1 u2 rd8 ae ab a8 aJ;generalize w8.setCell _ _=w9 at *;simp only[AI,AH]at ah;refine(FE w9 b A8 c8 l8 e8 av 1 gm).mono ?_;rintro e wA ⟨rfl,⟨AA,cA,rdA⟩,hoA⟩;obtain⟨r2,hr⟩:=ia (num 1 l8 e8);rw[hr]at rdA ⊢;obtain⟨q,lA,eA⟩:=r2;dsimp only at rdA ⊢;have aK:=AB hr;obtain⟨qb,ai⟩:=ib (decide (q=1));have bN:((q:Int)==1)=qb:=by rw[ai,Cx];simp;omega
     have aL:=AB ai;have aj:=ah.oth hoA gd;have T:=aw.trans hoA;have u1:=aj.cell 3 _ rfl;have u2:=aj.free 3 gj;have ax:=rdA.elsewhere (p:=gX bf 3) zb (.bool qb);have ay:=T.setNew (p:=gX bf 3) zf (.bool qb);have GA:=G.go rdA T;have GB:=G.go ax ay;have v1:=GA.bx.cell 1 _ rfl;obtain⟨x0,x1,x2⟩:=aj.c3;have aM:bs≠bf:=by have:=G.bx.z;omega
     have aY:bf≠bs:=λq=>aM q.symm;obtain⟨f,hf⟩:∃f:Fd,f=⟨fid,nm,kd,qb⟩:=⟨_,rfl⟩;have az:(#[im fid.toNat,.string nm,ip kd.toNat,.bool qb]:Array Value).toList=fdV f:=by rw[hf];rfl
     have aB:∀u∈fdV f,u.oneCell'=true:=λu hu=>Ee [f] u (by simpa [AZ]using hu);have V:=GB.lit f (cs:=#[im fid.toNat,.string nm,ip kd.toNat,.bool qb]) az rfl;rw[show(wA.setCell (gX bf 3) (.bool qb)).heap.size=wA.heap.size by simp]at V;have af:=AB V;have aC:rdF l' 0=(f,lA,eA):=by
      have:=JE be.o bh.o (e3:=e8) (l3:=l8) (kd:=kd) (by rw[O.o.2.1,O.o.2.2];exact aI.o) aK.o;rw[this,hf,aL.o,O.o.1]
     have aN:ga (DI (m-1) lA eA (fs++[f])=Q):=AB (by have:=au.o;rw[aC]at this;exact this);have bO:bs+1<=wA.heap.size:=GA.bx.z;have aO:=AB GB;have bP:IntKind.u64.wrap ((m:Int)-1)=(m:Int)-1:=by have:=HM.o;rw[BU];omega
     have bQ:((m:Int)-1) % 18446744073709551616=(m:Int)-1:=by have:=HM.o;omega
     clear hr aw hoA av ah ai V aC az hf GA GB G ax ay rdA T;go_wp2_with (at_builtin;refine Aw _ Ex rfl (.tmp 85) (.tmp 87) rfl (bs+1) _ _ _ rfl af.o.1 _ _ 1 1 _ rfl af.o.2 aB gd gt ?_;intro v3 w8 Z aD _;obtain⟨g,cap,rfl,bR,bS,G8⟩:=aO.o.grown (f:=f) Z aD;have aP:=AB G8;clear Z aD G8)
     go_roundw;case rel=>exact⟨m-1,_,_,lA,eA,_,_,fs++[f],by have:=HM.o;congr 1;omega,by have:=HM.o;simp;omega,aN,aP.o⟩
     case measure=>have:=HM.o;simp[intOf];omega
     
    have k1:w6.cell? (gX b 1)=some (io 0):=rd6.c1;obtain⟨q1,q2,q3⟩:=NU (r:=(sz,l6,0)) rfl hl;have aT:sz<=l6.length:=gd;obtain⟨A7,l7,bT,s1,s2,bU⟩:=JC rd6.rd aT;obtain⟨s3,s4,bj⟩:=Tk rd6.rd aT;have bk:=λW hW=>Eb (P:=prog) (A:=A6) (n:=sz) (c:=c6) (B:=b) (l:=l6.take sz) W underlying55 underlying5 underlying9 hW;have aZ:=bk w6 (by simpa [BN,Nat.min_eq_left aT]using bj);have a0:=bk w6.drew (by simpa [BN,Nat.min_eq_left aT]using bj.drew);dsimp only at q2 q3;rw[<-bT]at q3;obtain⟨nm,aE⟩:∃nm:ByteArray,nm=⟨(l6.take sz).toArray⟩:=⟨_,rfl⟩;rw[<-aE]at q2 aZ a0;have O:ga (Ey (sz,l6,0)=nm/\Dd (sz,l6,0)=l7/\DA (sz,l6,0)=0):=AB ⟨q2,q3,q1⟩;have HR:=AB bU;have u1:=ag.cell 1 _ rfl;have u2:=ag.free 1 gj;clear bk q1 q2 q3 bT bU bj aE;(go_wp2_with fail);go_cut [] from 19 to 89 (λwx=>Hl b bf wr fid nm l7 wx);case first=>
     go_region_with (fail)
     all_goals (try go_wp2_with fail)
     all_goals go_meet
     all_goals first|exact(td1 rd6 HR.o zb zf aa ag).drew|exact td1 rd6 HR.o zb zf aa ag|exact td2 rd6 HR.o zb zf aa ag|exact(td2 rd6 HR.o zb zf aa ag).drew
    case rest=>
     clear s1 s2 s3 s4 aZ a0 u1 u2 k0 k1 f0 f1 ag rd6 aa HR;obtain⟨⟨A7,c7,ao⟩,ap,ad⟩:=hcut;(go_wp2_with fail);refine(FE wc b A7 c7 l7 0 ao 255 gm).mono ?_;rintro e w8 ⟨rfl,⟨A8,c8,rd8⟩,ho8⟩;have I:=GW 255 l7 0;obtain⟨r2,hr⟩:=ia (num 255 l7 0);rw[hr]at rd8 I ⊢;obtain⟨a,l8,e8⟩:=r2;dsimp only at rd8 I ⊢;obtain⟨kd,rfl⟩:∃kd:UInt8,a=kd.toNat:=⟨UInt8.ofNat a,(J2 gd).symm⟩;have aI:=AB hr;have a8:(kd.toNat:Int) % 256=(kd.toNat:Int):=gd;have aJ:IntKind.u8.wrap (kd.toNat:Int)=(kd.toNat:Int):=by rw[IntKind.wrap_u8];omega
     have ab:=ad.oth ho8 gd;have ae:=ap.trans ho8;have u1:=ab.cell 2 _ rfl;have u2:=ab.free 2 gj;clear hr I ap ho8 ao ad;(go_wp2_with fail);have av:=rd8.elsewhere (p:=gX bf 2) zb (ip kd.toNat);have aw:=ae.setNew (p:=gX bf 2) zf (ip kd.toNat);have ah:=ab.set (j:=2) (ip kd.toNat) rfl;clear u1 u2 rd8 ae ab a8 aJ;generalize w8.setCell _ _=w9 at *;simp only[AI,AH]at ah;refine(FE w9 b A8 c8 l8 e8 av 1 gm).mono ?_;rintro e wA ⟨rfl,⟨AA,cA,rdA⟩,hoA⟩;obtain⟨r2,hr⟩:=ia (num 1 l8 e8);rw[hr]at rdA ⊢;obtain⟨q,lA,eA⟩:=r2;dsimp only at rdA ⊢;have aK:=AB hr;obtain⟨qb,ai⟩:=ib (decide (q=1));have bN:((q:Int)==1)=qb:=by rw[ai,Cx];simp;omega
     have aL:=AB ai;have aj:=ah.oth hoA gd;have T:=aw.trans hoA;have u1:=aj.cell 3 _ rfl;have u2:=aj.free 3 gj;have ax:=rdA.elsewhere (p:=gX bf 3) zb (.bool qb);have ay:=T.setNew (p:=gX bf 3) zf (.bool qb);have GA:=G.go rdA T;have GB:=G.go ax ay;have v1:=GA.bx.cell 1 _ rfl;obtain⟨x0,x1,x2⟩:=aj.c3;have aM:bs≠bf:=by have:=G.bx.z;omega
     have aY:bf≠bs:=λq=>aM q.symm;obtain⟨f,hf⟩:∃f:Fd,f=⟨fid,nm,kd,qb⟩:=⟨_,rfl⟩;have az:(#[im fid.toNat,.string nm,ip kd.toNat,.bool qb]:Array Value).toList=fdV f:=by rw[hf];rfl
     have aB:∀u∈fdV f,u.oneCell'=true:=λu hu=>Ee [f] u (by simpa [AZ]using hu);have V:=GB.lit f (cs:=#[im fid.toNat,.string nm,ip kd.toNat,.bool qb]) az rfl;rw[show(wA.setCell (gX bf 3) (.bool qb)).heap.size=wA.heap.size by simp]at V;have af:=AB V;have aC:rdF l' 0=(f,lA,eA):=by
      have:=JE be.o bh.o (e3:=e8) (l3:=l8) (kd:=kd) (by rw[O.o.2.1,O.o.2.2];exact aI.o) aK.o;rw[this,hf,aL.o,O.o.1]
     have aN:ga (DI (m-1) lA eA (fs++[f])=Q):=AB (by have:=au.o;rw[aC]at this;exact this);have bO:bs+1<=wA.heap.size:=GA.bx.z;have aO:=AB GB;have bP:IntKind.u64.wrap ((m:Int)-1)=(m:Int)-1:=by have:=HM.o;rw[BU];omega
     have bQ:((m:Int)-1) % 18446744073709551616=(m:Int)-1:=by have:=HM.o;omega
     clear hr aw hoA av ah ai V aC az hf GA GB G ax ay rdA T;go_wp2_with (at_builtin;refine Aw _ Ex rfl (.tmp 85) (.tmp 87) rfl (bs+1) _ _ _ rfl af.o.1 _ _ 1 1 _ rfl af.o.2 aB gd gt ?_;intro v3 w8 Z aD _;obtain⟨g,cap,rfl,bR,bS,G8⟩:=aO.o.grown (f:=f) Z aD;have aP:=AB G8;clear Z aD G8)
     go_roundw;case rel=>exact⟨m-1,_,_,lA,eA,_,_,fs++[f],by have:=HM.o;congr 1;omega,by have:=HM.o;simp;omega,aN,aP.o⟩
     case measure=>have:=HM.o;simp[intOf];omega
    
   have k1:=rd6.c1;obtain⟨q1,q2,q3⟩:=Ti (r:=(sz,l6,e6)) bi;have t2:=gL e6 0;have ao:=rd6;have ap:=aa;have O:ga (Ey (sz,l6,e6)=⟨#[]⟩/\Dd (sz,l6,e6)=l6/\DA (sz,l6,e6)=e6):=AB ⟨q2,q3,q1⟩;have ad:=ag;clear q1 q2 q3 rd6 ag aa bi;(go_wp2_with fail);clear k0 k1 f0 f1;refine(FE w6 b A6 c6 l6 e6 ao 255 gm).mono ?_;rintro e w8 ⟨rfl,⟨A8,c8,rd8⟩,ho8⟩;have I:=GW 255 l6 e6;obtain⟨r2,hr⟩:=ia (num 255 l6 e6);rw[hr]at rd8 I ⊢;obtain⟨a,l8,e8⟩:=r2;dsimp only at rd8 I ⊢;obtain⟨kd,rfl⟩:∃kd:UInt8,a=kd.toNat:=⟨UInt8.ofNat a,(J2 gd).symm⟩;have aI:=AB hr;have a8:(kd.toNat:Int) % 256=(kd.toNat:Int):=gd;have aJ:IntKind.u8.wrap (kd.toNat:Int)=(kd.toNat:Int):=by rw[IntKind.wrap_u8];omega
   have ab:=ad.oth ho8 gd;have ae:=ap.trans ho8;have u1:=ab.cell 2 _ rfl;have u2:=ab.free 2 gj;clear hr I ap ho8 ao ad;(go_wp2_with fail);have av:=rd8.elsewhere (p:=gX bf 2) zb (ip kd.toNat);have aw:=ae.setNew (p:=gX bf 2) zf (ip kd.toNat);have ah:=ab.set (j:=2) (ip kd.toNat) rfl;clear u1 u2 rd8 ae ab a8 aJ;generalize w8.setCell _ _=w9 at *;simp only[AI,AH]at ah;refine(FE w9 b A8 c8 l8 e8 av 1 gm).mono ?_;rintro e wA ⟨rfl,⟨AA,cA,rdA⟩,hoA⟩;obtain⟨r2,hr⟩:=ia (num 1 l8 e8);rw[hr]at rdA ⊢;obtain⟨q,lA,eA⟩:=r2;dsimp only at rdA ⊢;have aK:=AB hr;obtain⟨qb,ai⟩:=ib (decide (q=1));have bN:((q:Int)==1)=qb:=by rw[ai,Cx];simp;omega
   have aL:=AB ai;have aj:=ah.oth hoA gd;have T:=aw.trans hoA;have u1:=aj.cell 3 _ rfl;have u2:=aj.free 3 gj;have ax:=rdA.elsewhere (p:=gX bf 3) zb (.bool qb);have ay:=T.setNew (p:=gX bf 3) zf (.bool qb);have GA:=G.go rdA T;have GB:=G.go ax ay;have v1:=GA.bx.cell 1 _ rfl;obtain⟨x0,x1,x2⟩:=aj.c3;have aM:bs≠bf:=by have:=G.bx.z;omega
   have aY:bf≠bs:=λq=>aM q.symm;obtain⟨f,hf⟩:∃f:Fd,f=⟨fid,⟨#[]⟩,kd,qb⟩:=⟨_,rfl⟩;have az:(#[im fid.toNat,.string ⟨#[]⟩,ip kd.toNat,.bool qb]:Array Value).toList=fdV f:=by rw[hf];rfl
   have aB:∀u∈fdV f,u.oneCell'=true:=λu hu=>Ee [f] u (by simpa [AZ]using hu);have V:=GB.lit f (cs:=#[im fid.toNat,.string ⟨#[]⟩,ip kd.toNat,.bool qb]) az rfl;rw[show(wA.setCell (gX bf 3) (.bool qb)).heap.size=wA.heap.size by simp]at V;have af:=AB V;have aC:rdF l' 0=(f,lA,eA):=by
    have:=JE be.o bh.o (e3:=e8) (l3:=l8) (kd:=kd) (by rw[O.o.2.1,O.o.2.2];exact aI.o) aK.o;rw[this,hf,aL.o,O.o.1]
   have aN:ga (DI (m-1) lA eA (fs++[f])=Q):=AB (by have:=au.o;rw[aC]at this;exact this);have bO:bs+1<=wA.heap.size:=GA.bx.z;have aO:=AB GB;have bP:IntKind.u64.wrap ((m:Int)-1)=(m:Int)-1:=by have:=HM.o;rw[BU];omega
   have bQ:((m:Int)-1) % 18446744073709551616=(m:Int)-1:=by have:=HM.o;omega
   clear hr aw hoA av ah ai V aC az hf GA GB G ax ay rdA T;go_wp2_with (at_builtin;refine Aw _ Ex rfl (.tmp 85) (.tmp 87) rfl (bs+1) _ _ _ rfl af.o.1 _ _ 1 1 _ rfl af.o.2 aB gd gt ?_;intro v3 w8 Z aD _;obtain⟨g,cap,rfl,bR,bS,G8⟩:=aO.o.grown (f:=f) Z aD;have aP:=AB G8;clear Z aD G8)
   go_roundw;case rel=>exact⟨m-1,_,_,lA,eA,_,_,fs++[f],by have:=HM.o;congr 1;omega,by have:=HM.o;simp;omega,aN,aP.o⟩
   case measure=>have:=HM.o;simp[intOf];omega
  
  have hq:=NS (m:=m) (l:=l') (e:=e') (fs:=fs) (.inr he);have ar:=aS.o;rw[hq]at ar;have au:=AB ar;have am:ga ((rdS l 0).err=e'/\(rdS l 0).err≠0):=AB (by have:=KZ HA.o HN.o (HQ.o.trans au.o.symm);rw[AE he]at this;rw[this];exact⟨rfl,he⟩);have t2:=gL e' 0;have t3:=gM e' 0;have k1:=G.rd.c1;have ak:=AB G;generalize e'=ck at *;rcases F5 m with t1|t1
  .have t4:¬ 0<m:=gd;have HT:=AB t1;clear G hq ar he t1;(go_wp2_with fail);have GX:=ak.o;have e0:=GX.rd.c1;obtain⟨e3,e4⟩:=GX.rb.c2;obtain⟨e5,e6⟩:=GX.rb.f2;have aH:b≠B0:=gd;have bF:B0≠b:=gd;clear GX;clear k1;generalize wr=w6 at *;go_region_held3 (λw'=>w'.cell? (gX b 1)=some (io ck)) (first|exact e0|exact Hk aH e0 _ _|go_keep) (fail)
   all_goals (try go_wp2_with fail)
   all_goals (try simp only[Exit.inBlock,Exit.then])
   all_goals
    obtain⟨y1,_,y3,y4,y5⟩:=(ak.o.call ((AC _ w6).drew)).fin (im 0) ir;refine AW (JD (b:=B0) (x:=im 0) (y:=ir) rfl _ _ rfl y4 y5) rfl ?_;obtain⟨q1,q2,q3⟩:=L5 am.o.2;refine⟨none,0,none,0,?_,?_,?_,(y3 aq).belowB aQ (AD _)⟩
    .rw[q1,q2,q3,am.o.1];rfl
    .rw[q2];exact Av _ _ _ _
    rw[q3];exact Av _ _ _ _
  have t4:=gG 0 m;clear G hq ar he;go_wp2_with fail
  have GX:=ak.o;have e0:=GX.rd.c1;obtain⟨e3,e4⟩:=GX.rb.c2;obtain⟨e5,e6⟩:=GX.rb.f2;have aH:b≠B0:=gd;have bF:B0≠b:=gd;clear GX;clear k1;generalize wr=w6 at *;go_region_held3 (λw'=>w'.cell? (gX b 1)=some (io ck)) (first|exact e0|exact Hk aH e0 _ _|go_keep) (fail)
  all_goals (try go_wp2_with fail)
  all_goals (try simp only[Exit.inBlock,Exit.then])
  all_goals
   obtain⟨y1,_,y3,y4,y5⟩:=(ak.o.call ((AC _ w6).drew)).fin (im 0) ir;refine AW (JD (b:=B0) (x:=im 0) (y:=ir) rfl _ _ rfl y4 y5) rfl ?_;obtain⟨q1,q2,q3⟩:=L5 am.o.2;refine⟨none,0,none,0,?_,?_,?_,(y3 aq).belowB aQ (AD _)⟩
   .rw[q1,q2,q3,am.o.1];rfl
   .rw[q2];exact Av _ _ _ _
   rw[q3];exact Av _ _ _ _
theorem FF (w b P A c l bad)(h:dS w b P A c l bad):
 Calls prog 109 #[iq b 0] w (OX w b P (Ai l bad)):=by
 have:=h.c0;have:=h.c1;have:=h.f0;have:=h.f1;go_enter func109,ntmps109;go_wp2_with fail
 refine(JB w w.heap.size _ c A l h.rd.rd).mono ?_;rintro e w1 ⟨rfl,rfl⟩;by_cases hg:(Var.get l).2.2=0
 .cases bad with
  | true=>
    have HN:=AB (JV (l:=l) (bad:=true) (.inr rfl));rw[hg];generalize (Var.get l).2.1=g2 at *;generalize (Var.get l).1=g1 at *;clear hg;(go_wp2_with fail);go_ret;exact⟨by rw[HN.o];rfl,⟨A,c,by rw[HN.o];exact h.set1 true⟩,(Oth.refl b w).set 1 _⟩
  | false=>
    have HN:=AB (L6 (l:=l) (bad:=false) (by simp[hg]));have hk:(Var.get l).2.1<=l.length:=(Var.get_ok (l:=l) (n:=(Var.get l).1) (k:=(Var.get l).2.1) (by rw[<-hg])).2.1;obtain⟨A2,l2,G,s1,s2,I⟩:=h.rd.lo hk;rw[<-G]at HN;obtain⟨g1,O⟩:∃g,g=(Var.get l).1:=⟨_,rfl⟩;rw[<-O]at HN ⊢;rw[hg];generalize (Var.get l).2.1=g2 at *;have HR:=AB I;clear hg O G hk I;(go_wp2_with fail);go_ret;exact⟨by rw[HN.o];rfl,⟨A2,c-g2,by rw[HN.o];exact h.set0 HR.o⟩,(Oth.refl b w).set 0 _⟩
 have HN:=AB (JV (l:=l) (bad:=bad) (.inl hg));obtain⟨g3,T⟩:∃g,g=(Var.get l).2.2:=⟨_,rfl⟩;rw[<-T]at hg ⊢;generalize (Var.get l).2.1=g2 at *;generalize (Var.get l).1=g1 at *;have:=gM g3 0;clear hg T;go_wp2_with fail
 go_ret;exact⟨by rw[HN.o];rfl,⟨A,c,by rw[HN.o];exact h.set1 true⟩,(Oth.refl b w).set 1 _⟩
theorem OZ (w b P A c l bad)(h:dS w b P A c l bad):
 Calls prog 170 #[iq b 0] w (OY w b P (C7 l bad)):=by
 go_enter func170,ntmps170;go_wp2_with fail
 refine(FF w b P A c l bad h).mono ?_;rintro e w1 ⟨rfl,⟨A1,c1,h1⟩,ho⟩;have HT:ga (C7 l bad=if (Ai l bad).2.2=true\/(Ai l bad).2.1.length<(Ai l bad).1 then (ByteArray.empty,(Ai l bad).2.1,true) else (⟨((Ai l bad).2.1.take (Ai l bad).1).toArray⟩,(Ai l bad).2.1.drop (Ai l bad).1,false)):=AB rfl;obtain⟨n,l1,b1,hm⟩:∃n l1 b1,Ai l bad=(n,l1,b1):=⟨_,_,_,rfl⟩;rw[hm]at h1 HT ⊢;dsimp only at h1 HT ⊢;have HM:=AB hm;clear hm;have d0:=h1.c0;have d1:=h1.c1;have f0:=h1.f0;have f1:=h1.f1;have I:l1.length<=9223372036854775807:=by have h2:=h1.rd.rd.le;have h3:=h1.rd.rd.cap;unfold maxLen at h3;omega
 have V:IntKind.u64.wrap (l1.length:Int)=(l1.length:Int):=by rw[BU];omega
 have Z:(l1.length:Int) % 18446744073709551616=(l1.length:Int):=gd;cases b1 with
 | true=>
   have HR:=AB (HT.o.trans (AJ (.inl rfl)));clear I V Z;(go_wp2_with fail);go_ret;exact⟨by rw[HR.o];rfl,⟨A1,c1,by rw[HR.o];exact h1.set1 true⟩,ho.set 1 _⟩
 | false=>
   by_cases hn:l1.length<n
   .have HR:=AB (HT.o.trans (AJ (.inr hn)));clear I;(go_wp2_with fail);go_ret;exact⟨by rw[HR.o];rfl,⟨A1,c1,by rw[HR.o];exact h1.set1 true⟩,ho.set 1 _⟩
   have HR:=AB (HT.o.trans (AE gt));obtain⟨A2,l2,O,s1,s2,T⟩:=h1.rd.lo (lo:=n) gd;have ad:=h1.rd.rd.le;have u1:=λk W=>Ev (P:=prog) As A1 l1.length c1 k (n:Int) n rfl gd W;have u2:=λk W=>EN (P:=prog) As A1 l1.length c1 k (n:Int) n rfl gd W;have G:Rd w1 w1.heap.size 1 A1 n c1 (AO (l1.take n)):=by
    have:=h1.rd.rd.pre (hi:=n) gd;simpa [AO,List.map_take]using this
   have ae:=Eb (P:=prog) w1 underlying55 underlying5 underlying9 G;have aa:=AB O;have ab:=AB T;clear O T G I;(go_wp2_with fail);go_ret;exact⟨by rw[HR.o];rfl,⟨A2,c1-n,by rw[HR.o];dsimp only;rw[<-aa.o];exact h1.set0 ab.o⟩,ho.set 0 _⟩
theorem Ug (w br P A c l bad)(h:dS w br P A c l bad):
 Calls prog 111 #[iq br 0] w (Og w br P (EQ l bad)):=by
 go_enter func111,ntmps111;go_wp2_with fail
 obtain⟨x0,au⟩:=gZ w Aj 43;have aC:=h.nP;have h0:=(h.imp (Q:=λk=>P k/\k<w.heap.size) (λk hk hl=>⟨hk,hl⟩) (λq=>h.nP q.1)).keep au;have ho:=Oth.of (b:=br) au;have z0:br<w.heap.size:=h.z;generalize w.alloc _=w0 at *;obtain⟨B0,av⟩:=ib w.heap.size;rw[<-av]at x0 z0 h0 ⊢;have zw:w.heap.size<=B0:=Cz av.symm;have ab:ga ((∀k,(P k/\k<B0)->P k)/\∀k,(P k/\k<B0)->k<B0):=AB ⟨λ_ h=>h.1,λ_ h=>h.2⟩;have aD:¬(P B0/\B0<B0):=λq=>Nat.lt_irrefl _ q.2;have aw:∀k,B0<k->¬(P k/\k<B0):=λk hk q=>gd;generalize ak:(λk=>P k/\k<B0)=Q0 at *;replace ab:ga ((∀k,Q0 k->P k)/\∀k,Q0 k->k<B0):=AB (by rw[<-ak];exact ab.o);replace aD:¬Q0 B0:=by rw[<-ak];exact aD
 replace aw:∀k,B0<k->¬Q0 k:=by rw[<-ak];exact aw
 clear av au h ak;refine(FF w0 br Q0 A c l bad h0).mono ?_;rintro e w1 ⟨rfl,⟨A1,c1,h1⟩,ho1⟩;have I:=FG l bad;obtain⟨n1,l1,b1,hn⟩:∃n l' b',Ai l bad=(n,l',b'):=⟨_,_,_,rfl⟩;rw[hn]at h1 I ⊢;dsimp only at h1 I ⊢;obtain⟨a1,rfl⟩:∃a:UInt64,n1=a.toNat:=⟨UInt64.ofNat n1,(IP I).symm⟩;have aE:=AB hn;have x1:=x0.oth ho1 gd;have aF:=ho.trans ho1;clear hn I h0 x0 ho1 ho;go_wp2_with fail
 refine(FF w1 br Q0 A1 c1 l1 b1 h1).mono ?_;rintro e w2 ⟨rfl,⟨A2,c2,h2⟩,ho2⟩;have I:=FG l1 b1;obtain⟨n2,l2,b2,hn⟩:∃n l' b',Ai l1 b1=(n,l',b'):=⟨_,_,_,rfl⟩;rw[hn]at h2 I ⊢;dsimp only at h2 I ⊢;obtain⟨a2,rfl⟩:∃a:UInt64,n2=a.toNat:=⟨UInt64.ofNat n2,(IP I).symm⟩;have aG:=AB hn;have x2:=x1.oth ho2 gd;have aH:=aF.trans ho2;clear hn I h1 x1 ho2 aF;go_wp2_with fail
 refine(FF w2 br Q0 A2 c2 l2 b2 h2).mono ?_;rintro e w3 ⟨rfl,⟨A3,c3,h3⟩,ho3⟩;have I:=FG l2 b2;obtain⟨n3,l3,b3,hn⟩:∃n l' b',Ai l2 b2=(n,l',b'):=⟨_,_,_,rfl⟩;rw[hn]at h3 I ⊢;dsimp only at h3 I ⊢;obtain⟨a3,rfl⟩:∃a:UInt64,n3=a.toNat:=⟨UInt64.ofNat n3,(IP I).symm⟩;have aI:=AB hn;have x3:=x2.oth ho3 gd;have aJ:=aH.trans ho3;clear hn I h2 x2 ho3 aH;go_wp2_with fail
 refine(FF w3 br Q0 A3 c3 l3 b3 h3).mono ?_;rintro e w4 ⟨rfl,⟨A4,c4,h4⟩,ho4⟩;have I:=FG l3 b3;obtain⟨n4,l4,b4,hn⟩:∃n l' b',Ai l3 b3=(n,l',b'):=⟨_,_,_,rfl⟩;rw[hn]at h4 I ⊢;dsimp only at h4 I ⊢;obtain⟨a4,rfl⟩:∃a:UInt64,n4=a.toNat:=⟨UInt64.ofNat n4,(IP I).symm⟩;have aK:=AB hn;have x4:=x3.oth ho4 gd;have aL:=aJ.trans ho4;clear hn I h3 x3 ho4 aJ;go_wp2_with fail
 refine(FF w4 br Q0 A4 c4 l4 b4 h4).mono ?_;rintro e w5 ⟨rfl,⟨A5,c5,h5⟩,ho5⟩;have I:=FG l4 b4;obtain⟨n5,l5,b5,hn⟩:∃n l' b',Ai l4 b4=(n,l',b'):=⟨_,_,_,rfl⟩;rw[hn]at h5 I ⊢;dsimp only at h5 I ⊢;obtain⟨a5,rfl⟩:∃a:UInt64,n5=a.toNat:=⟨UInt64.ofNat n5,(IP I).symm⟩;have aM:=AB hn;have x5:=x4.oth ho5 gd;have aN:=aL.trans ho5;clear hn I h4 x4 ho5 aL;go_wp2_with fail
 obtain⟨xs,am⟩:=gZ w5 #[il a1.toNat,il a2.toNat,il a3.toNat,il a4.toNat,il a5.toNat,im 0,ir] 43;have hA:=h5.keep am;have xA:=x5.keep am x5.z;have aO:=aN.trans (.of am);have o1:br<w5.heap.size:=h5.z;have o2:B0<w5.heap.size:=x5.z;generalize w5.alloc _=wA at *;generalize w5.heap.size=bs at *;clear h5 x5 aN am;refine(FF wA br Q0 A5 c5 l5 b5 hA).mono ?_;rintro e w6 ⟨rfl,⟨A6,c6,h6⟩,ho6⟩;have I:=FG l5 b5;obtain⟨n6,l6,b6,hn⟩:∃n l' b',Ai l5 b5=(n,l',b'):=⟨_,_,_,rfl⟩;rw[hn]at h6 I ⊢;dsimp only at h6 I ⊢;have aP:=AB hn;have x6:=xA.oth ho6 gd;have ao:=xs.oth ho6 gd;have aQ:=aO.trans ho6;obtain⟨sc,ax⟩:∃s:UInt32,s=UInt32.ofNat n6:=⟨_,rfl⟩;have aR:(n6:Int) % 4294967296=(sc.toNat:Int):=by rw[ax,UInt32.toNat_ofNat'];omega
 have aS:IntKind.u32.wrap (n6:Int)=(sc.toNat:Int):=by rw[IntKind.wrap_u32];exact aR
 have aT:=AB ax;have u5:=ao.cell 5 _ rfl;have f5:=ao.free 5 gj;have c1:=h6.c1;have f1:=h6.f1;have n1:br≠bs:=gd;have n2:bs≠br:=gd;have y6:=ao.set (j:=5) (im sc.toNat) rfl;have k6:=h6.elsewhere (p:=gX bs 5) n1 (aw bs o2) (im sc.toNat);have z6:=x6.else (p:=gX bs 5) (by show bs≠B0;omega) (im sc.toNat);have q6:=aQ.setNew (p:=gX bs 5) (show w.heap.size<=bs by omega) (im sc.toNat);obtain⟨tb,ay⟩:=ib (decide (4294967295<n6));have t1:decide ((4294967295:Int)<(n6:Int))=tb:=by rw[ay,Cx];simp only[BI];omega
 have aU:=AB ay;have HK:=gT y6 k6 z6 q6;clear hn I ax ay hA xA xs x6 ao aQ aO ho6 h6 y6 k6 z6 q6;go_upto_region 4 with fail
 go_cut [] from 21 to 31 (λwx=>wx=(w6.setCell (gX bs 5) (im sc.toNat)).setCell (gX br 1) (.bool (b6||tb)));case first=>
  cases b6 with
  | true=>
    (go_wp2_with fail);go_meet;exact rfl
  | false=>
    (go_wp2_with fail);go_meet;exact rfl
 case rest=>
 clear u5 f5 c1 f1 aR aS t1;have hG:GS w B0 br bs Q0 ⟨a1,a2,a3,a4,a5,sc,[]⟩ A6 c6 l6 (b6||tb) none 0 [] wc:=by
  subst hcut;obtain⟨y6,k6,z6,q6⟩:=HK.o;exact⟨k6.set1 (b6||tb),y6.else (p:=gX br 1) n1 _,Av _ _ _ _,z6.else (p:=gX br 1) (show br≠B0 by omega) _,q6.set 1 _,o1,o2,z0,zw,ab.o.2⟩
 clear hcut HK;go_wp2_with fail
 refine(FF wc br Q0 A6 c6 l6 (b6||tb) hG.rd).mono ?_;rintro e w7 ⟨rfl,⟨A7,c7,h7⟩,ho7⟩;have I:=FG l6 (b6||tb);obtain⟨N,l7,b7,hn⟩:∃n l' b',Ai l6 (b6||tb)=(n,l',b'):=⟨_,_,_,rfl⟩;rw[hn]at h7 I ⊢;dsimp only at h7 I ⊢;have aV:=AB hn;have G7:=hG.go h7 ho7;obtain⟨Q,hQ⟩:=ia (Ei N l7 b7 []);have HQ:=AB hQ;have HR:ga (EQ l bad=(⟨a1,a2,a3,a4,a5,sc,Q.1⟩,Q.2.1,Q.2.2)):=AB (by
  rw[Oc aE.o aG.o aI.o aK.o aM.o aP.o (by rw[<-aU.o];exact aV.o) (hQ.trans (show Q=(Q.1,Q.2.1,Q.2.2) from rfl)),aT.o];simp only[mk7,UInt64.ofNat_toNat])
 clear hn hQ hG ho7 h7 aE aG aI aK aM aP aV aT aU;obtain⟨ti,az,ad,ae,af⟩:=DZ Ez.inf;go_wp2_with fail
 go_loopw [4] (GSR w B0 br bs Q0 ⟨a1,a2,a3,a4,a5,sc,[]⟩ Q) (λiv _=>(intOf iv).toNat);case atStart=>exact⟨N,A7,c7,l7,b7,none,0,[],rfl,I,λ_=>gj,HQ,G7⟩
 case round=>
  clear G7 I;obtain⟨m,A',c',l',e',fA,fc,ms,rfl,a0,ag,ap,G⟩:=hrel;have k1:=G.rd.c1;have s0:=G.bx.cell 6 _ rfl;have HG:=AB G;by_cases hx:m=0\/e'=true
  ·
   have hq:=Uc (l:=l') (acc:=ms) hx;rw[ap.o]at hq;have aB:=AB hq;obtain⟨d0,d1,d2,d3,d4,d5⟩:=G.bx.c6;have:=G.rb.cell 0 _ rfl;have:=G.rb.free 0 gj;have:=G.rb.cell 1 _ rfl;have:=G.rb.free 1 gj;have:=G.rb.cell 2 _ rfl;have:=G.rb.free 2 gj;have:=G.rb.cell 3 _ rfl;have:=G.rb.free 3 gj;have:=G.rb.cell 4 _ rfl;have:=G.rb.free 4 gj;have:=G.rb.cell 5 _ rfl;have:=G.rb.free 5 gj;have:=G.rb.cell 6 _ rfl;have:=G.rb.free 6 gj;have:bs≠B0:=by have:=G.o2;omega
   have:B0≠bs:=by have:=G.o2;omega
   have aq:EQ l bad=(⟨a1,a2,a3,a4,a5,sc,ms⟩,l',e'):=by rw[HR.o,hq]
   have ar:=AB aq;clear hq ap ag G aq;by_cases hm:m=0
   .have t1:¬ 0<m:=gd;have t2:=gH 0 m;clear hx;(go_wp2_with fail);(try simp only[Exit.inBlock,Exit.then]);refine AW (Kh (b:=B0) rfl _ _ rfl HG.o.rb.set7) rfl ?_;exact Oh HG.o ar.o ab.o.1 aC
   obtain rfl:e'=true:=by simpa [hm]using hx
   have t2:=gG 0 m;clear hx;(go_wp2_with fail);(try simp only[Exit.inBlock,Exit.then]);refine AW (Kh (b:=B0) rfl _ _ rfl HG.o.rb.set7) rfl ?_;exact Oh HG.o ar.o ab.o.1 aC
  
  have aW:0<m:=gd;obtain rfl:e'=false:=by cases e'<;>simp_all
  have:=ag rfl;have hq:=ap.o;rw[show m=(m-1)+1 by omega,Ob]at hq;have aB:=AB hq;have t1:=gG 0 m;have HM:=AB aW;have f6:=G.bx.free 6 gj;clear hq ap ag hx aW G;go_upto_region 8 with fail
  go_cut [] from 34 to 64 (λwx=>GST w B0 br bs Q0 ⟨a1,a2,a3,a4,a5,sc,[]⟩ l' ms wx);case first=>
   rename_i J K1 hJ hK1;refine wp_region_held_drew (S:=λ_=>True) gh ?_ (λhHeld=>?_)
   .trivial
   refine tK 0 ?_;refine tK 2 ?_;refine wpAnyH_ready (rs:=[1,3]) gh gj ?_;refine AllReadyH.cons rfl (λK hK=>?_) (AllReadyH.cons rfl (λK hK=>?_) (AllReadyH.nil))
   .go_simp;refine hK.out _ _ trivial (λhHeld=>?_);clear hK K;refine ie ?_;refine rD 3 λK hK=>?_;go_simp;go_at_call 170;refine(OZ wr.drew br Q0 A' c' l' false HG.o.rd.drew).mono ?_;rintro e w6 ⟨rfl,⟨A6,c6,rd6⟩,ho6⟩;obtain⟨s6,l6,e6,hT⟩:∃s l e,C7 l' false=(s,l,e):=⟨_,_,_,rfl⟩;rw[hT]at rd6 ⊢;dsimp only at rd6 ⊢;have HT:=AB hT;have T:=AB (HG.o.drew.go rd6 ho6);have s1:=T.o.bx.cell 6 _ rfl;have HL:=AB (T.o.lit s6);have aY:bs+1<=w6.heap.size:=T.o.bx.z;have ah:=hI w6 (.cells #[.string s6] 9);have s2:=(T.o.bx.keep ah T.o.bx.z).cell 6 _ rfl;clear hT ah rd6 ho6;(try dsimp only);refine hK.out _ _ trivial (λhHeld=>?_);clear hK K;refine ie ?_;refine rD 4 λK hK=>?_;go_simp;refine hK.out _ _ trivial (λhHeld=>?_);clear hK K;refine ie ?_;refine rD 5 λK hK=>?_;refine Cw _ rfl (.tmp 46) (.tmp 49) 41 rfl (bs+1) 9 ti _ 1 16 underlying41 az ad ae af Ez.zs gm _ ms.length (AY ms) (by simp[Act.eval,Act.put]) HL.o.1 _ 1 1 [.string s6] (by simp[Act.eval,Act.put]) rfl HL.o.2 (Hb [s6]) gd gq gd (by simp<;>omega) _ rfl ?_;intro g cap w8 O V _ _;obtain⟨d1,d2,Z⟩:=T.o.grown O V;have aa:=AB Z;clear O V Z;refine hK.out _ _ trivial (λhHeld=>?_);clear hK K;refine ie ?_;refine tK 6 ?_;refine rD 7 λK hK=>?_;go_simp;refine hK.out _ _ trivial (λhHeld=>?_);clear hK K;refine ie ?_;refine wpAnyH_done gh ?_ _;refine hK1 _ _ ?_;go_meet;exact⟨A6,c6,_,cap,by rw[HT.o];exact aa.o⟩
   go_simp;go_at_call 170;refine(OZ wr.drew br Q0 A' c' l' false HG.o.rd.drew).mono ?_;rintro e w6 ⟨rfl,⟨A6,c6,rd6⟩,ho6⟩;obtain⟨s6,l6,e6,hT⟩:∃s l e,C7 l' false=(s,l,e):=⟨_,_,_,rfl⟩;rw[hT]at rd6 ⊢;dsimp only at rd6 ⊢;have HT:=AB hT;have T:=AB (HG.o.drew.go rd6 ho6);have s1:=T.o.bx.cell 6 _ rfl;have HL:=AB (T.o.lit s6);have aY:bs+1<=w6.heap.size:=T.o.bx.z;have ah:=hI w6 (.cells #[.string s6] 9);have s2:=(T.o.bx.keep ah T.o.bx.z).cell 6 _ rfl;clear hT ah rd6 ho6;(try dsimp only);refine hK.out _ _ trivial (λhHeld=>?_);clear hK K;refine ie ?_;refine wpAnyH_ready (rs:=[1,4]) gh gj ?_;refine AllReadyH.cons rfl (λK hK=>?_) (AllReadyH.cons rfl (λK hK=>?_) (AllReadyH.nil))
   .go_simp;refine hK.out _ _ trivial (λhHeld=>?_);clear hK K;refine ie ?_;refine rD 4 λK hK=>?_;go_simp;refine hK.out _ _ trivial (λhHeld=>?_);clear hK K;refine ie ?_;refine rD 5 λK hK=>?_;refine Cw _ rfl (.tmp 46) (.tmp 49) 41 rfl (bs+1) 9 ti _ 1 16 underlying41 az ad ae af Ez.zs gm _ ms.length (AY ms) (by simp[Act.eval,Act.put]) HL.o.1 _ 1 1 [.string s6] (by simp[Act.eval,Act.put]) rfl HL.o.2 (Hb [s6]) gd gq gd (by simp<;>omega) _ rfl ?_;intro g cap w8 O V _ _;obtain⟨d1,d2,Z⟩:=T.o.grown O V;have aa:=AB Z;clear O V Z;refine hK.out _ _ trivial (λhHeld=>?_);clear hK K;refine ie ?_;refine tK 6 ?_;refine rD 7 λK hK=>?_;go_simp;refine hK.out _ _ trivial (λhHeld=>?_);clear hK K;refine ie ?_;refine wpAnyH_done gh ?_ _;refine hK1 _ _ ?_;go_meet;exact⟨A6,c6,_,cap,by rw[HT.o];exact aa.o⟩
   go_simp;refine hK.out _ _ trivial (λhHeld=>?_);clear hK K;refine ie ?_;refine rD 1 λK hK=>?_;go_simp;refine hK.out _ _ trivial (λhHeld=>?_);clear hK K;refine ie ?_;refine rD 5 λK hK=>?_;refine Cw _ rfl (.tmp 46) (.tmp 49) 41 rfl (bs+1) 9 ti _ 1 16 underlying41 az ad ae af Ez.zs gm _ ms.length (AY ms) (by simp[Act.eval,Act.put]) HL.o.1 _ 1 1 [.string s6] (by simp[Act.eval,Act.put]) rfl HL.o.2 (Hb [s6]) gd gq gd (by simp<;>omega) _ rfl ?_;intro g cap w8 O V _ _;obtain⟨d1,d2,Z⟩:=T.o.grown O V;have aa:=AB Z;clear O V Z;refine hK.out _ _ trivial (λhHeld=>?_);clear hK K;refine ie ?_;refine tK 6 ?_;refine rD 7 λK hK=>?_;go_simp;refine hK.out _ _ trivial (λhHeld=>?_);clear hK K;refine ie ?_;refine wpAnyH_done gh ?_ _;refine hK1 _ _ ?_;go_meet;exact⟨A6,c6,_,cap,by rw[HT.o];exact aa.o⟩
  case rest=>
   obtain⟨A8,c8,g,cap,G8⟩:=hcut;obtain⟨s8,l8,e8,hT⟩:∃s l e,C7 l' false=(s,l,e):=⟨_,_,_,rfl⟩;rw[hT]at G8;dsimp only at G8;have ai:=aB.o;rw[hT]at ai;dsimp only at ai;have:=G8.rd.c1;have:=G8.rd.f1;have r8:=G8.bx.cell 6 _ rfl;have e1:(ms++[s8]).length=ms.length+1:=gj;rw[e1]at r8;obtain⟨tc,aj⟩:=ib (decide (8<ms.length+1));have:decide ((8:Int)<((ms.length+1:Nat):Int))=tc:=by rw[aj,Cx];simp only[BI];omega
   have:decide ((8:Int)<(ms.length:Int)+1)=tc:=by rw[aj,Cx];simp only[BI];omega
   rw[<-aj]at ai;have aX:=AB ai;have aZ:=AB aj;have aa:=AB G8;have:IntKind.u64.wrap ((m:Int)-1)=(m:Int)-1:=by have:=HM.o;rw[BU];omega
   have:((m:Int)-1) % 18446744073709551616=(m:Int)-1:=by have:=HM.o;omega
   clear ai aj G8 k1 s0 f6 aB hT HG;cases e8 with
   | true=>
     (go_wp2_with fail);go_roundw;case rel=>exact⟨m-1,A8,c8,l8,true,_,cap,ms++[s8],by have:=HM.o;congr 1;omega,gd,(λhh=>by cases hh),aX,aa.o.why true⟩
     case measure=>have:=HM.o;simp[intOf];omega
   | false=>
     (go_wp2_with fail);go_roundw;case rel=>exact⟨m-1,A8,c8,l8,tc,_,cap,ms++[s8],by have:=HM.o;congr 1;omega,gd,(λhh=>by rw[aZ.o]at hh;simp at hh;simp;omega),aX,aa.o.why tc⟩
     case measure=>have:=HM.o;simp[intOf];omega
