/- For CatalogEntries. -/
import Derived.Test.YtpfofefecamkfaaGreatDoorZ8
import Derived.Test.YtpfofefecamkfaaGreatDoorZ9
namespace Go.Proofs.YtpfofefecamkfaaGreatDoor
open Go.RowKit Proofs.Tryz
set_option maxRecDepth 100000
set_option maxHeartbeats 16000000
set_option linter.all false
theorem LW (w sA sc ss nA nc ns)(cur:Nat)(hT:TabR w w.heap.size sA sc ss nA nc ns)(ht:Dx w):
 Calls prog 85 #[.agg #[.slice sA ss.length sc,.slice nA ns.length nc,il cur]] w (JT w (ss.map dK) (ns.map dL) cur):=by
 have HT:=AB ht;have aN:=ht.pos;clear ht;go_enter func85,ntmps85;go_wp2_with fail
 have x1:=Dv w #[.slice sA ss.length sc,.slice nA ns.length nc,il cur] 39;have ao:=hI w (.cells #[.slice sA ss.length sc,.slice nA ns.length nc,il cur] 39);generalize w.alloc _=w1 at *;have az:=hT.later ao;obtain⟨bx,aB⟩:∃b,b=w.heap.size:=⟨_,rfl⟩;rw[<-aB]at x1 ⊢;have ba:=AB aB;clear aB hT;refine(Ko w1 sA sc ss nA nc ns cur az).mono ?_;rintro e w2 ⟨rfl,hb2⟩;have aC:=AM ao ao.size hb2;have X2:=x1.keep hb2;have aD:=az.later hb2;clear x1 az ao hb2;cases hr:B7 (ss.map dK) (ns.map dL) cur with
 | false=>
   have HR:=AB hr;clear hr;(go_wp2_with fail);go_ret2;exact .inr ⟨HR.o,rfl,aC⟩
 | true=>
   have HR:=AB hr;have HH:=AB (Gh hr);have aX:ss.length<=16:=by have:=HH.o.1.2.1;simpa using this
   have be:ns.length<=32:=by have:=HH.o.1.2.2;simpa using this
   clear hr;have kc:=Lib.run_convert_bytes_const (P:=prog) w2 55 5 #[ip 84,ip 70,ip 49] 3 3 underlying55 underlying5;have ab:=hI w2 (.cells #[ip 84,ip 70,ip 49] 5 (3,4));have aO:∀j u,(AO tf1)[j]? = some u->(w2.alloc (.cells #[ip 84,ip 70,ip 49] 5 (3,4))).cell? (gX w2.heap.size j)=some u:=λj u hj=>by
    have e:(#[Value.int .u8 84,ip 70,ip 49]:Array Value).toList=AO tf1:=rfl;rw[World.cell?_alloc_mark,<-Array.getElem?_toList,e];exact hj
   have X3:=X2.keep ab;have aY:w2.heap.size<(w2.alloc (.cells #[ip 84,ip 70,ip 49] 5 (3,4))).heap.size:=gj;have c0:=X3.bx.cell 0 _ rfl;have ai:IntKind.u64.wrap (ss.length:Int)=(ss.length:Int):=by rw[BU];omega
   have aj:(ss.length:Int) % 18446744073709551616=(ss.length:Int):=gd;have hp:=Dg ss.length gd;have aZ:=put_pos ss.length;(go_wp2_with fail);generalize w2.alloc (.cells #[ip 84,ip 70,ip 49] 5 (3,4))=w3 at *;have T:w2.heap.size<=w3.heap.size:=ab.size;refine(Eg (ss.length:Int) w3 gd gd).mono ?_;rintro e w4 ⟨v4,rfl,hown4,hb4⟩;rw[BM]at hown4;have aP:∀j u,(AO tf1)[j]? = some u->w4.cell? (gX w2.heap.size j)=some u:=λj u hj=>(hb4.cell (p:=gX w2.heap.size j) aY).trans (aO j u hj);have X4:=X3.keep hb4;have ap:w2.heap.size<=w4.heap.size:=AS T hb4.size;have bg:tf1.length=3:=rfl;have aQ:=AB X3;clear kc ai aj c0 X2 X3 aO;go_wp2_with (at_builtin;refine Kz (l:=tf1) rfl (.tmp 17) (.tmp 22) rfl rfl aP rfl hown4 aZ gd ?_;intro v5 w5 aR aE;have o5:Buf w2.heap.size (tf1++Var.put ss.length) v5 w5:=(B4 aR ap);have X5:=X4.keep aE;have c0:=X5.bx.cell 0 _ rfl;have Z5:=(Bz.of (B:=w2.heap.size) hb4).trans (Bz.of aE);clear aR hown4 X4 hb4 aE aP)
   go_loopw [4,27] (λad iv wr=>∃(bv:Value) (k:Nat) (q:List UInt8),ad=bv/\iv = io k/\k<=ss.length/\Buf w2.heap.size q bv wr/\ga (q=wr0 (ss.map dK)++Ci ((ss.map dK).take k))/\Bz w2.heap.size w3 wr) (λ_ iv _=>ss.length-(intOf iv).toNat);case atStart=>exact⟨_,0,tf1++Var.put ss.length,rfl,rfl,AU _,o5,AB (by unfold wr0 Ci;rw[Ae];simp),Z5⟩
   case round=>
    clear o5 Z5 c0 X5;obtain⟨bv,k,q,rfl,rfl,hk,ob,hq,hz⟩:=hrel;have XR:=aQ.o.bz hz gm;have ae:w2.heap.size<=wr.heap.size:=AS T hz.size;have V:=(aD.below (ab.trans (hz.below T))).more ae;have aF:q.length<=7000:=by
     have e:(Ci ((ss.map dK).take k)).length<=((ss.map dK).take k).length * 400:=JS λs hs=>HH.o.2.1 s (List.mem_of_mem_take hs);have e2:((ss.map dK).take k).length<=16:=by rw[BN,Ae];omega
     have e3:(wr0 (ss.map dK)).length<=13:=by unfold wr0;rw[AR,Ae];omega
     have e4:((ss.map dK).take k).length * 400<=16 * 400:=Cc _ e2;rw[hq.o,AR];omega
    by_cases ag:k<ss.length
    .obtain⟨b,off,rfl,hb,f0,f1⟩:=V.srow.sl ag;have aS:=V.s_at ag;have aq:=HH.o.2.1 _ (B9 (l:=ss.map dK) (i:=k) (by rw[Ae];exact ag));have G:=FD (f:=λs:Ps=>DK s.1 s.2) (l:=ss.map dK) (k:=k) (by rw[Ae];exact ag);have ak:(ss.map dK).getD k default=dK (ss.getD k default):=Gc ss k;rw[ak]at aq G;generalize hf:ss.getD k default=f at *;have af:=AB G;have a0:=AB aq;have bh:(DK f.id f.fs).length<=400:=L0 aq;clear hf ak aq G V;obtain⟨y,I⟩:=gZ wr #[im f.id.toNat,.slice f.A f.fs.length f.c] 33;have oA:=ob.keep I;have ay:=(aS.below I).more I.size;obtain⟨u0,u1⟩:=y.c2;have zA:Bz w2.heap.size w3 _:=hz.trans (Bz.of I);have aG:w2.heap.size<=(wr.alloc (.cells #[im f.id.toNat,.slice f.A f.fs.length f.c] 33)).heap.size:=AS ae I.size;(go_wp2_with fail);generalize wr.alloc _=wA at *;refine(UN wA f.id _ f.c f.A f.fs ay (OL a0.o)).mono ?_;rintro e w6 ⟨v6,rfl,hown6,hb6⟩;obtain⟨A6,c6,rfl⟩:=BK hown6;have o6:=oA.keep hb6;have Z:=Ay hown6;have am:w2.heap.size<=w6.heap.size:=AS aG hb6.size;clear u0 u1 f0 f1 aS ay ob oA hown6 I y hz;go_wp2_with (at_builtin;refine FZ rfl (.tmp 31) (.tmp 33) rfl rfl o6 A6 _ c6 _ rfl Z gd am ?_;intro v7 w7 o7 O;have Z7:=zA.trans ((Bz.of hb6).trans O);clear o6 Z hb6 zA O)
     go_roundw;case rel=>exact⟨_,k+1,q++DK f.id f.fs,rfl,by go_num,ag,o7,AB (by rw[hq.o];unfold Ci;rw[af.o,Az];rfl),Z7⟩
     case measure=>simp[intOf];omega
    have HQ:ga (q=wr0 (ss.map dK)++Ci (ss.map dK)):=AB (by rw[hq.o,CF (by rw[Ae];omega)]);obtain⟨c0,c1⟩:=XR.bx.c2;have ai:IntKind.u64.wrap (ns.length:Int)=(ns.length:Int):=by rw[BU];omega
    have aj:(ns.length:Int) % 18446744073709551616=(ns.length:Int):=gd;have a1:=Dg ns.length gd;clear hq V hk;(go_wp2_with fail);refine(Eg (ns.length:Int) wr gd gd).mono ?_;rintro e w6 ⟨v6,rfl,hown6,hb6⟩;rw[BM]at hown6;obtain⟨A6,c6,rfl⟩:=BK hown6;have o6:=ob.keep hb6;have Z:=Ay hown6;have am:w2.heap.size<=w6.heap.size:=AS ae hb6.size;have X6:=XR.keep hb6;have z6:=hz.trans (Bz.of hb6);clear ai aj c0 c1 ob hown6 hb6 XR hz ag;go_wp2_with (at_builtin;refine FZ rfl (.tmp 36) (.tmp 41) rfl rfl o6 A6 _ c6 _ rfl Z gd am ?_;intro v7 w7 o7 O;have X7:=X6.bz O gm;have c1:=X7.bx.cell 1 _ rfl;have Z7:=z6.trans O;clear o6 Z z6 O X6)
    have a2:(q++Var.put ns.length).length<=7010:=by rw[AR];omega
    go_loopw [4,46] (λad iv wr=>∃(bv:Value) (k:Nat) (q:List UInt8),ad=bv/\iv = io k/\k<=ns.length/\Buf w2.heap.size q bv wr/\ga (q=wr1 (ss.map dK) (ns.map dL)++DB ((ns.map dL).take k))/\Bz w2.heap.size w3 wr) (λ_ iv _=>ns.length-(intOf iv).toNat);case atStart=>exact⟨_,0,_,rfl,rfl,AU _,o7,AB (by unfold wr1 DB;rw[HQ.o,Ae];simp),Z7⟩
    case round=>
     clear o7 Z7 c1 X7 a2 aF ae HQ;obtain⟨bv,m,p,rfl,rfl,hm,ob,ar,hz⟩:=hrel;have XR:=aQ.o.bz hz gm;have ae:w2.heap.size<=wr.heap.size:=AS T hz.size;have V:=(aD.below (ab.trans (hz.below T))).more ae;have bi:p.length<=20000:=by
      have e:(DB ((ns.map dL).take m)).length<=((ns.map dL).take m).length * 342:=OK λs hs=>HH.o.2.2 s (List.mem_of_mem_take hs);have e2:((ns.map dL).take m).length<=32:=by rw[BN,Ae];omega
      have e4:((ns.map dL).take m).length * 342<=32 * 342:=Cc _ e2;have e5:(Ci (ss.map dK)).length<=(ss.map dK).length * 400:=JS HH.o.2.1;have e6:(ss.map dK).length * 400<=16 * 400:=Cc _ (by rw[Ae];exact aX);have e3:(wr1 (ss.map dK) (ns.map dL)).length<=6423:=by unfold wr1 wr0;simp only[AR];rw[Ae,Ae];omega
      rw[ar.o,AR];omega
     by_cases aa:m<ns.length
     .obtain⟨b,off,rfl,hb,f0,f1,f2,f3,f4,f5,f6⟩:=V.nrow.nl aa;have aT:=aD.n_at aa;have aH:=HH.o.2.2 _ (B9 (l:=ns.map dL) (i:=m) (by rw[Ae];exact aa));have G:=FD (f:=snB) (l:=ns.map dL) (k:=m) (by rw[Ae];exact aa);have ak:(ns.map dL).getD m default=dL (ns.getD m default):=JK ns m;rw[ak]at aH G;generalize hf:ns.getD m default=f at *;have af:=AB G;have aI:=AB (JR aH);have h8:f.p.ms.length<=8:=aI.o.1;clear hf ak aH G V;have I:=hI wr (.cells #[il f.p.id.toNat,il f.p.par.toNat,il f.p.seq.toNat,il f.p.off.toNat,il f.p.tim.toNat,im f.p.sch.toNat,.slice f.A f.p.ms.length f.c] 43);have y:=Dv wr #[il f.p.id.toNat,il f.p.par.toNat,il f.p.seq.toNat,il f.p.off.toNat,il f.p.tim.toNat,im f.p.sch.toNat,.slice f.A f.p.ms.length f.c] 43;have oA:=ob.keep I;have zA:Bz w2.heap.size w3 _:=hz.trans (Bz.of I);have aG:w2.heap.size<=(wr.alloc (.cells #[il f.p.id.toNat,il f.p.par.toNat,il f.p.seq.toNat,il f.p.off.toNat,il f.p.tim.toNat,im f.p.sch.toNat,.slice f.A f.p.ms.length f.c] 43)).heap.size:=AS ae I.size;obtain⟨u0,u1,u2,u3,u4,u5,u6⟩:=y.bx.c7;(go_upto_region 13 with fail);generalize wr.alloc _=wA at *;generalize wr.heap.size=b8 at *;have aU:=f.p.sch.toNat_lt;have a3:IntKind.u64.wrap (f.p.sch.toNat:Int)=(f.p.sch.toNat:Int):=by rw[BU];omega
      have a4:(f.p.sch.toNat:Int) % 18446744073709551616=(f.p.sch.toNat:Int):=gd;have ai:IntKind.u64.wrap (f.p.ms.length:Int)=(f.p.ms.length:Int):=by rw[BU];omega
      have aj:(f.p.ms.length:Int) % 18446744073709551616=(f.p.ms.length:Int):=gd;have au:=hI wA (.cells #[il f.p.id.toNat,il f.p.par.toNat,il f.p.seq.toNat,il f.p.off.toNat,il f.p.tim.toNat,il f.p.sch.toNat,il f.p.ms.length] 35);have L:=Dv wA #[il f.p.id.toNat,il f.p.par.toNat,il f.p.seq.toNat,il f.p.off.toNat,il f.p.tim.toNat,il f.p.sch.toNat,il f.p.ms.length] 35;have yL:=y.keep au;have oL:=oA.keep au;have zL:Bz w2.heap.size w3 _:=zA.trans (Bz.of au);have a5:w2.heap.size<=(wA.alloc (.cells #[il f.p.id.toNat,il f.p.par.toNat,il f.p.seq.toNat,il f.p.off.toNat,il f.p.tim.toNat,il f.p.sch.toNat,il f.p.ms.length] 35)).heap.size:=AS aG au.size;clear f0 f1 f2 f3 f4 f5 f6 ob oA zA I hz;(go_wp2_with fail);generalize wA.alloc _=wL at *;generalize wA.heap.size=bl at *;clear a3 a4 ai aj u0 u1 u2 u3 u4 u5 u6 aU;have aV:=L4 (p:=f.p) h8;have aJ:=AB aV;have HL:ga (BoxT wL bl ((BD f.p).map λn:Nat=>Value.int .u64 n) 35):=AB L;clear aV L y;have HY:=AB yL;clear yL;go_loopw [4,69] (λad iv wq=>∃(bv:Value) (k:Nat) (q:List UInt8),ad=bv/\iv = io k/\k<=7/\Buf w2.heap.size q bv wq/\ga (q=p++Dy ((BD f.p).take k))/\Bz w2.heap.size wL wq) (λ_ iv _=>7-(intOf iv).toNat);case atStart=>exact⟨_,0,p,rfl,rfl,gd,oL,AB (by unfold Dy;simp),Bz.refl _ _⟩
      case round=>
       obtain⟨bv,k,q,rfl,rfl,hk,ob,hq,hz⟩:=hrel;have aK:w2.heap.size<=wr.heap.size:=AS a5 hz.size;have LR:=HL.o.bz hz gm;by_cases aL:k<7
       .have ah:k<(BD f.p).length:=aL;have aM:=LR.bx.cell k (il ((BD f.p).getD k 0:Int)) (by rw[DY,BF ah,DV _ _ ah];rfl);have aW:=aJ.o ((BD f.p).getD k 0) (by rw[DV _ _ ah];exact List.getElem_mem ah);have G:(BD f.p).take (k+1)=(BD f.p).take k++[(BD f.p).getD k 0]:=by rw[Cn,BF ah,DV _ _ ah];rfl
        have aF:q.length<=p.length+70:=by
         have e:(Dy ((BD f.p).take k)).length<=((BD f.p).take k).length * 10:=IM λn hn=>aJ.o n (List.mem_of_mem_take hn);have e2:((BD f.p).take k).length<=7:=by rw[BN];omega
         rw[hq.o,AR];omega
        generalize (BD f.p).getD k 0=n at *;have af:=AB G;have a1:=Dg n aW;clear G;(go_wp2_with fail);refine(Eg (n:Int) wr gd gd).mono ?_;rintro e w6 ⟨v6,rfl,hown6,hb6⟩;rw[BM]at hown6;obtain⟨A6,c6,rfl⟩:=BK hown6;have o6:=ob.keep hb6;have Z:=Ay hown6;have am:w2.heap.size<=w6.heap.size:=AS aK hb6.size;clear aM ob hown6 LR;go_wp2_with (at_builtin;refine FZ rfl (.tmp 73) (.tmp 75) rfl rfl o6 A6 _ c6 _ rfl Z gd am ?_;intro v7 w7 o7 O;have Z7:=hz.trans ((Bz.of hb6).trans O);clear o6 Z hb6 O)
        go_roundw;case rel=>exact⟨_,k+1,q++Var.put n,rfl,by go_num,aL,o7,AB (by rw[hq.o,af.o];unfold Dy;rw[List.flatMap_append,Az];simp),Z7⟩
        case measure=>simp[intOf];omega
       have HQ:ga (q=p++Dy (BD f.p)):=AB (by rw[hq.o,CF (show(BD f.p).length<=k by have:(BD f.p).length=7:=rfl;omega)]);have aF:q.length<=p.length+70:=by
        have e:(Dy (BD f.p)).length<=(BD f.p).length * 10:=IM aJ.o;have e2:(BD f.p).length=7:=rfl;rw[HQ.o,AR];omega
       have YR:=HY.o.bz hz gm;have u6:=YR.bx.cell 6 _ rfl;have zR:=zL.trans hz;have a8:=(aT.below (ab.trans (zR.below T))).more aK;clear hq;(go_wp2_with fail);generalize f.A=fA at *;go_loopw [4,81] (λad iv wq=>∃(bv:Value) (k:Nat) (r:List UInt8),ad=bv/\iv = io k/\k<=f.p.ms.length/\Buf w2.heap.size r bv wq/\ga (r=q++txs (f.p.ms.take k))/\Bz w2.heap.size wr wq) (λ_ iv _=>f.p.ms.length-(intOf iv).toNat);case atStart=>exact⟨_,0,q,rfl,rfl,AU _,ob,AB (by unfold txs;simp),Bz.refl _ _⟩
       case round=>
        clear u6 aL hk ob;obtain⟨bv,k,r,rfl,rfl,hk,ob,hr,av⟩:=hrel;have ap:w2.heap.size<=wr.heap.size:=AS aK av.size;have bj:r.length<=q.length+272:=by
         have e:(txs (f.p.ms.take k)).length<=(f.p.ms.take k).length * 34:=EP λs hs=>L3 (aI.o.2 s (List.mem_of_mem_take hs));have e2:(f.p.ms.take k).length<=8:=by rw[BN];omega
         rw[hr.o,AR];omega
        by_cases aw:k<f.p.ms.length
        .obtain⟨b1,o1,rfl,bk,p0⟩:=((aT.below (ab.trans ((zR.trans av).below T))).more ap).st aw;have a9:=aI.o.2 (f.p.ms.getD k default) (B9 aw);have G:=FD (f:=tx) aw;generalize f.p.ms.getD k default=x at *;have af:=AB G;clear G;(go_wp2_with fail);refine(W0 wr w2.heap.size r _ x ob ap gd).mono ?_;rintro e w6 ⟨v6,rfl,o6,z6⟩;have Z6:=av.trans z6;clear ob p0;(go_wp2_with fail);go_roundw;case rel=>exact⟨_,k+1,r++tx x,rfl,by go_num,aw,o6,AB (by rw[hr.o];unfold txs;rw[af.o,Az]),Z6⟩
         case measure=>simp[intOf];omega
        have a6:ga (r=wr1 (ss.map dK) (ns.map dL)++DB ((ns.map dL).take (m+1))):=AB (by
         rw[hr.o,CF (show f.p.ms.length<=k by omega),HQ.o,ar.o];unfold DB;rw[af.o];unfold snB;simp only[Az];rfl)
        have Z4:=zR.trans av;(go_wp2_with fail);go_roundw;case rel=>exact⟨_,m+1,r,rfl,by go_num,aa,ob,a6,Z4⟩
        case measure=>simp[intOf];omega
     have HP:ga (p=wrT (ss.map dK) (ns.map dL)):=AB (by rw[ar.o,CF (by rw[Ae];omega)];rfl);obtain⟨bA,bc,rfl⟩:=BK ob;have ax:Below w.heap.size w wr:=aC.trans ((ab.trans (hz.below T)).mono aC.size);have a7:=Ay ob;clear ar V XR;(go_wp2_with fail);refine(Kx wr p.length bc bA p a7 (HT.o.below ax aN) gd).mono ?_;rintro e w9 ⟨v9,rfl,hown9,hb9⟩;(go_wp2_with fail);go_ret2;refine .inl ⟨HR.o,v9,rfl,?_,AM ax ax.size hb9⟩;unfold wrS;rw[<-HP.o];exact B4 hown9 ax.size
theorem W8 (w A c l)(hr:Rd w w.heap.size 1 A l.length c (AO l))(ht:Dx w)(hl:l.length<=1000000):
 Calls prog 48 #[.slice A l.length c] w (GD w l):=by
 have HT:=AB ht;have aK:=ht.pos;clear ht;go_enter func48,ntmps48;go_wp2_with fail
 obtain⟨x0,ax⟩:=gZ w Aa 39;have a9:=(hr.below ax).more ax.size;have ba:=HT.o.below ax aK;generalize w.alloc _=w0 at *;obtain⟨B0,aW⟩:=ib w.heap.size;rw[<-aW]at x0 ⊢;have zw:w.heap.size<=B0:=Cz aW.symm;refine(OO w0 _ c A l a9 ba hl).mono ?_;intro e w1 he;obtain⟨aX,A1,c1,rfl,ae⟩:=OR he;have be:Below w.heap.size w w1:=AM ax ax.size aX;have X1:=x0.keep aX x0.z;obtain⟨O,af⟩:∃b,(BT l).getD []=b:=⟨_,rfl⟩;obtain⟨ok,aY⟩:∃b,(BT l).isSome=b:=⟨_,rfl⟩;rw[af]at ae ⊢;rw[aY];have HB:ga (BO l=O/\(BT l).isSome=ok):=AB ⟨af,aY⟩;have HX:=gT X1 be ae zw;have bg:ga (O.length<=1000000):=AB (by
  rw[<-af];unfold BT;split
  .simp only[Option.getD_some,BN];omega
  .simp)
 have bh:O.length<=9223372036854775807:=by have:=bg.o;omega
 have k0:=X1.cell 0 _ rfl;have f0:=X1.free 0 gj;have k1:=X1.cell 1 _ rfl;have f1:=X1.free 1 gj;have k2:=X1.cell 2 _ rfl;have f2:=X1.free 2 gj;clear af aY he ax aX aW a9 ba x0 X1 be;cases ok with
 | false=>
   clear ae;(go_wp2_with fail);(try simp only[Exit.inBlock,Exit.then]);refine AW (BA (b:=B0) rfl _ _ rfl HX.o.1.set3b) rfl ?_;exact Hm (er:=101) (W6 HB.o.2) gm (BV HX.o.2.1 HX.o.2.2.2)
 | true=>
   by_cases h3:O.length<3
   .have t1:=gG O.length 3;have HE:=AB (Pj HB.o.2 (.inl (by rw[HB.o.1];exact h3)));clear ae;(go_wp2_with fail);(try simp only[Exit.inBlock,Exit.then]);refine AW (BA (b:=B0) rfl _ _ rfl HX.o.1.set3b) rfl ?_;exact Hm (er:=100) HE.o gm (BV HX.o.2.1 HX.o.2.2.2)
   have t1:=gH O.length 3;have aL:=ae.le;have u1:=λk W=>Ev (P:=prog) As A1 O.length c1 k (3:Int) 3 rfl gd W;have u2:=λk W=>EN (P:=prog) As A1 O.length c1 k (3:Int) 3 rfl gd W;have aM:Rd w1 w1.heap.size 1 A1 3 c1 (AO (O.take 3)):=by
    have:=ae.pre (hi:=3) gd;simpa [AO,List.map_take]using this
   have aN:=Eb (P:=prog) w1 underlying55 underlying5 underlying9 aM;have H3:=AB h3;clear aM;by_cases hq:O.take 3≠tf1
   .have HE:=AB (Pj HB.o.2 (.inr (by rw[HB.o.1];exact hq)));have cd:=W3 hq;generalize (⟨(O.take 3).toArray⟩:ByteArray)=pre at *;clear ae hq h3 aL;(go_wp2_with fail);(try simp only[Exit.inBlock,Exit.then]);refine AW (BA (b:=B0) rfl _ _ rfl HX.o.1.set3b) rfl ?_;exact Hm (er:=100) HE.o gm (BV HX.o.2.1 HX.o.2.2.2)
   have hq:O.take 3=tf1:=Decidable.of_not_not hq;have HM:ga (¬((BO l).length<3\/(BO l).take 3≠tf1)):=AB (by rw[HB.o.1];rintro(q|q);exact H3.o q;exact q hq);have bi:(⟨(O.take 3).toArray⟩:ByteArray)=⟨#[84,70,49]⟩:=by rw[hq];rfl
   rw[bi]at aN;obtain⟨A2,l2,aZ,s1,s2,bj⟩:=JC ae (lo:=3) gd;have s1:∀k W,(Instr.sliceAt 55 (.slice A1 O.length c1) (some (.int k (3:Int))) none none).run prog W = .ok (.slice A2 l2.length (c1-3)) W:=s1;have s2:∀k W,(Instr.slice 55 (.slice A1 O.length c1) (some (.int k (3:Int))) none none).run prog W = .ok (.slice A2 l2.length (c1-3)) W:=s2;have bQ:ga (l2=(BO l).drop 3):=AB (by rw[aZ,HB.o.1]);have bk:ga (l2.length<=1000000):=AB (by rw[aZ];have:=bg.o;simp;omega);clear ae hq bi h3 aL aZ bh;(go_wp2_with fail);have R2:=OV w1 (P:=λk=>k≠w1.heap.size/\k≠w1.heap.size+1) bj 192 (λk hk=>⟨gd,gd⟩) (λq=>q.1 rfl);have a0:=hI w1 (.cells #[.slice A2 l2.length (c1-3),.bool false] 192);have a1:(w1.alloc (.cells #[.slice A2 l2.length (c1-3),.bool false] 192)).heap.size=w1.heap.size+1:=gj;have X2:=HX.o.1.keep a0 HX.o.1.z;have a2:=AM HX.o.2.1 HX.o.2.1.size a0;rw[<-a1]at R2;generalize w1.alloc _=w2 at *;obtain⟨T3,ar⟩:=gZ w2 Aa 39;have R3:=R2.keep ar;have X3:=X2.keep ar X2.z;have bl:=AM a2 a2.size ar;have zb:w1.heap.size<w2.heap.size:=gd;have z0:B0<w1.heap.size:=HX.o.1.z;rw[<-a1];generalize w2.alloc _=w3 at *;generalize w2.heap.size=bt at *;generalize w1.heap.size=br at *;have G3:GO w B0 br bt (λk=>k≠br/\k≠bt) (bt+1) A2 (c1-3) l2 false none 0 [] none 0 [] 0 w3:=⟨R3,T3,dN.nil _ _,dN.nil _ _,X3,bl,z0,zb,HX.o.2.2.2,E9 _,T3.z⟩;have a3:ga ((∀k,bt<k->(λk=>k≠br/\k≠bt) k)/\(∀k,(λk=>k≠br/\k≠bt) k->k≠bt)/\¬(λk=>k≠br/\k≠bt) br):=AB ⟨λk hk=>⟨gd,gd⟩,λk hk=>hk.2,λq=>q.1 rfl⟩;clear R2 R3 T3 X2 X3 a0 ar a1 bj a2 bl k0 k1 k2 f0 f1 f2 u1 u2 s1 s2 aN;generalize (λk=>k≠br/\k≠bt)=P1 at *;refine(FF w3 br P1 A2 (c1-3) l2 false G3.rd).mono ?_;rintro e w4 ⟨rfl,⟨A4,c4,h4⟩,ho4⟩;have ag:=FG l2 false;have a4:=Ub l2 false;obtain⟨N,l4,b4,hn⟩:∃n l' b',Ai l2 false=(n,l',b'):=⟨_,_,_,rfl⟩;rw[hn]at h4 ag a4 ⊢;dsimp only at h4 ag a4 ⊢;have bm:=AB hn;have G4:=G3.go h4 ho4;have bn:l4.length<=1000000:=by have:=bk.o;omega
   obtain⟨Q,hQ⟩:=ia (oS N l4 b4 []);have HQ:=AB hQ;clear hn hQ h4 ho4 G3 a4;(go_wp2_with fail);go_loopw [8] (W4 w B0 br bt P1 Q) (λiv _=>(intOf iv).toNat);case atStart=>exact⟨N,A4,c4,l4,b4,none,0,[],rfl,ag,λ_=>gj,bn,HQ,G4⟩
   case round=>
    clear G4 ag bn;obtain⟨m,A',c',l',e',sA,sc,ss,rfl,aB,aa,bo,ah,G⟩:=hrel;have k1:=G.rd.c1;have HG:=AB G;obtain⟨go,T⟩:=ia (decide (0<m) && !e');(go_upto_region 9 with fail);go_cut [48] from 40 to 80 (λv wx=>v = .bool go/\wx=wr);case first=>
     by_cases hm:m=0
     .have t2:¬ 0<m:=gd;have t3:=gH 0 m;obtain rfl:go=false:=by rw[<-T,hm];rfl
      (go_wp2_with fail);go_meet;exact⟨rfl,rfl⟩
     have t2:0<m:=gd;have t3:=gG 0 m;obtain rfl:go = !e':=by rw[<-T,AF t2];rfl
     (go_wp2_with fail);go_meet;exact⟨rfl,rfl⟩
    case rest=>
    obtain⟨rfl,rfl⟩:=hcut;cases go with
    | true=>
      have aC:0<m:=by
       rcases F5 m with q|q
       .rw[q]at T;cases T
       exact q
      obtain rfl:e'=false:=by cases e' with|false=>rfl|true=>simp at T
      have bR:=aa rfl;have hq:=ah.o;rw[show m=(m-1)+1 by omega,Od]at hq;have ak:=AB hq;have HM:=AB aC;have c0:=G.rd.c0;clear hq ah aa T aC k1;(go_wp2_with fail);refine(Ua wc _ c' A' l' G.rd.rd.rd bo).mono ?_;rintro e w5 ⟨F,fc,AL,cL,rfl,hF5,hL5,hb5⟩;obtain⟨fs,aH⟩:=ia (uFs l');obtain⟨id,a5⟩:=ia (uId l');obtain⟨lf,aD⟩:=ia (EO l');obtain⟨er,a6⟩:=ia ((rdS l' 0).err);have aO:=W2 l';rw[aD]at aO;have aP:lf.length<=1000000:=gd;rw[aH]at hF5;rw[aD]at hL5;rw[aH,a5,aD,a6];have ai:ga (oS (m-1) lf (decide (er≠0)||decide (16<ss.length+1)) ((ss++[(⟨id,fs,F,fc⟩:Sl)]).map dK)=Q):=AB (by have:=ak.o;rw[aH,a5,aD,a6]at this;simpa [dK]using this);have bp:∀k,wc.heap.size<=k->P1 k:=λk hk=>a3.o.1 k (by have:=G.tx.z;omega);have G5:=G.call hb5;have k0:=G5.tx.cell 0 _ rfl;clear aH a5 aD a6 ak c0 aO;(go_upto_region 12 with fail);obtain⟨xb,ab⟩:=gZ w5 (dR id F fs.length fc) 33;have av:=AM hb5 hb5.size ab;have bq:=Ag hF5 ab;have bu:=Ag hL5 ab;generalize w5.alloc _=w6 at *;generalize w5.heap.size=b9 at *;obtain⟨y0,y1⟩:=xb.c2;have am:=Rd.lit w6 (n:=1) (sz:=2) 33 (dR id F fs.length fc) rfl gm;have ad:=hI w6 (.cells (dR id F fs.length fc) 33);have aw:=AM av av.size ad;have aE:=Ag bq ad;have bv:=Ag bu ad;have G6:=G.call av;have k0:=G6.tx.cell 0 _ rfl;have S7:=(G.call aw).hS.sown;have aQ:=AB (fun(v:Value) (w8:World) hown hg=>G.addS (w8:=w8) (id:=id) (fs:=fs) (F:=F) (fc:=fc) (v:=v) (e:=false) aw aE bv hown hg bp);have a7:=gR am S7;have bw:bt+1<=(w6.alloc (.cells (dR id F fs.length fc) 33)).heap.size:=(G.call aw).tx.z;have b7:ss.length<=16:=bR;clear hF5 hL5 hb5 ab xb av bq bu am ad aw aE bv G5 G6 S7 bp;go_upto_region 13 with (at_builtin;(refine Aw _ Fu rfl (.tmp 62) (.tmp 64) rfl (bt+1) _ _ _ rfl a7.o.2 (w6.heap.size+1) _ 1 1 (slV ⟨id,fs,F,fc⟩) rfl a7.o.1 (GZ _) gd bw ?_;intro v5 w8 Z ao _;obtain⟨g,cap,rfl,d0,d1,d2,d3,G8⟩:=aQ.o v5 w8 Z ao;have V:=AB G8;clear Z ao G8 k0 y0 y1 aQ a7 bw))
      generalize (w8.setCell _ _).setCell _ _=w9 at *;have k8:=V.o.rd.c1;have j8:=V.o.rd.f1;have r8:=V.o.tx.cell 0 _ rfl;have e1:(ss++[(⟨id,fs,F,fc⟩:Sl)]).length=ss.length+1:=gj;rw[e1]at r8;obtain⟨tc,aj⟩:=ib (decide (16<ss.length+1));have t3:decide ((16:Int)<((ss.length+1:Nat):Int))=tc:=by rw[aj,Cx];simp only[BI];omega
      have t4:decide ((16:Int)<(ss.length:Int)+1)=tc:=by rw[aj,Cx];simp only[BI];omega
      have aF:=AB aj;have bS:IntKind.u64.wrap ((m:Int)-1)=(m:Int)-1:=by have:=HM.o;rw[BU];omega
      have bT:((m:Int)-1) % 18446744073709551616=(m:Int)-1:=by have:=HM.o;omega
      clear aj G HG;by_cases hz:er=0
      .have au:ga (oS (m-1) lf tc ((ss++[(⟨id,fs,F,fc⟩:Sl)]).map dK)=Q):=AB (by have:=ai.o;rw[hz,<-aF.o]at this;simpa using this);have t5:=gO er 0;have t6:=gK er 0;clear hz ai;(go_wp2_with fail);go_roundw;case rel=>exact⟨m-1,AL,cL,lf,tc,_,cap,ss++[⟨id,fs,F,fc⟩],by have:=HM.o;congr 1;omega,gd,(λhh=>by rw[aF.o]at hh;simp at hh;simp;omega),aP,au,V.o.why tc⟩
       case measure=>have:=HM.o;simp[intOf];omega
      have au:ga (oS (m-1) lf true ((ss++[(⟨id,fs,F,fc⟩:Sl)]).map dK)=Q):=AB (by have:=ai.o;rw[AF (p:=er≠0) hz]at this;simpa using this);have t5:=gM er 0;have t6:=gL er 0;clear hz ai;(go_wp2_with fail);go_roundw;case rel=>exact⟨m-1,AL,cL,lf,true,_,cap,ss++[⟨id,fs,F,fc⟩],by have:=HM.o;congr 1;omega,gd,(λhh=>by cases hh),aP,au,V.o.why true⟩
      case measure=>have:=HM.o;simp[intOf];omega
    | false=>
      have hq:oS m l' e' (ss.map dK)=(ss.map dK,l',e'):=Ud (by
       cases e' with
       | true=>exact .inr rfl
       | false=>exact .inl (Nat.eq_zero_of_not_pos λq=>by rw[AF q]at T;cases T))
      rw[ah.o]at hq;have ak:=AB hq;have t2:=T;clear hq ah aa aB bo k1;(go_wp2_with fail);refine(FF wc br P1 A' c' l' e' G.rd).mono ?_;rintro e w6 ⟨rfl,⟨A6,c6,h6⟩,ho6⟩;have ag:=FG l' e';obtain⟨N2,l6,b6,hn⟩:∃n l b,Ai l' e'=(n,l,b):=⟨_,_,_,rfl⟩;rw[hn]at h6 ag ⊢;dsimp only at h6 ag ⊢;have cf:=AB hn;have G6:=G.go h6 ho6;obtain⟨R,hR⟩:=ia (oN N2 l6 b6 []);have HR:=AB hR;have bU:ga (opn ((BO l).drop 3)=(ss.map dK,R.1,R.2.2)):=AB (by rw[<-bQ.o];exact Of bm.o (HQ.o.trans ak.o) hn (hR.trans rfl));obtain⟨P2,aI⟩:∃P2:Nat->Prop,P2=λk=>P1 k/\k<w6.heap.size:=⟨_,rfl⟩;have G7:GO w B0 br bt P2 w6.heap.size A6 c6 l6 b6 sA sc ss none 0 [] 0 w6:=⟨h6.imp (λk hk hl=>by rw[aI];exact⟨hk,hl⟩) (λq=>by rw[aI]at q;exact a3.o.2.2 q.1),G6.tx,G6.hS,dN.nil _ _,G6.rb,G6.bel,G6.o1,G6.o2,G6.o3,G6.tx.z,AD _⟩;have bB:ga ((∀k,P2 k->k<w6.heap.size)/\¬P2 bt):=AB (by rw[aI];exact⟨λk q=>q.2,λq=>a3.o.2.1 bt q.1 rfl⟩);generalize w6.heap.size=B2 at *;clear hn hR G6 h6 ho6 aI HG G ak T t2 bm HQ;obtain⟨ti,bC,aR,aS,aT⟩:=DZ Ds.inf;(go_wp2_with fail);go_loopw [12] (W5 w B0 br bt P2 B2 sA sc ss R) (λiv _=>(intOf iv).toNat);case atStart=>exact⟨N2,A6,c6,l6,b6,none,0,[],rfl,ag,λ_=>gj,HR,G7⟩
      case round=>
       clear G7 ag;obtain⟨m,A',c',l',e',nA,nc,ns,rfl,aB,aa,ah,G⟩:=hrel;have k1:=G.rd.c1;have HG:=AB G;obtain⟨go,T⟩:=ia (decide (0<m) && !e');(go_upto_region 15 with fail);go_cut [91] from 83 to 117 (λv wx=>v = .bool go/\wx=wr);case first=>
        by_cases hm:m=0
        .have t2:¬ 0<m:=gd;have t3:=gH 0 m;obtain rfl:go=false:=by rw[<-T,hm];rfl
         (go_wp2_with fail);go_meet;exact⟨rfl,rfl⟩
        have t2:0<m:=gd;have t3:=gG 0 m;obtain rfl:go = !e':=by rw[<-T,AF t2];rfl
        (go_wp2_with fail);go_meet;exact⟨rfl,rfl⟩
       case rest=>
       obtain⟨rfl,rfl⟩:=hcut;cases go with
       | true=>
         have aC:0<m:=by
          rcases F5 m with q|q
          .rw[q]at T;cases T
          exact q
         obtain rfl:e'=false:=by cases e' with|false=>rfl|true=>simp at T
         have cg:=aa rfl;have hq:=ah.o;rw[show m=(m-1)+1 by omega,Oe]at hq;have ak:=AB hq;have ay:=AB aC;clear hq ah aa T aC k1;(go_wp2_with fail);refine(Ug wc br P2 A' c' l' false G.rd).mono ?_;rintro e w5 ⟨F,fc,rfl,hF5,⟨A5,c5,h5⟩,ho5⟩;obtain⟨p,l5,e5,hs⟩:∃p l e,EQ l' false=(p,l,e):=⟨_,_,_,rfl⟩;rw[hs]at hF5 h5 ⊢;dsimp only at hF5 h5 ⊢;have ai:ga (oN (m-1) l5 (e5||decide (32<ns.length+1)) ((ns++[(⟨p,F,fc⟩:Nl)]).map dL)=R):=AB (by have:=ak.o;rw[hs]at this;simpa [dL]using this);have G5:=G.go h5 ho5;have aU:=B4 hF5 G.o5;clear hs ak hF5 h5 ho5;(go_upto_region 18 with fail);have x7:dH _ _ ([il p.id.toNat,il p.par.toNat,il p.seq.toNat,il p.off.toNat,il p.tim.toNat,im p.sch.toNat,.slice F p.ms.length fc]:List Value):=AP w5 (dO p F fc) 43;have ad:=hI w5 (.cells (dO p F fc) 43);have aE:=Ag aU ad;have G7:=G5.call ad;obtain⟨b3,ar⟩:∃b,b=w5.heap.size:=⟨_,rfl⟩;rw[<-ar]at x7 ⊢;have nb3:b3≠bt:=by have:=G5.tx.z;omega
         have bD:∀k,(Value.slice nA ns.length nc).ownBlock=some k->k≠b3:=λk hk=>by have:=(G5.hN.nown.lt k hk).2;omega
         generalize w5.alloc _=w7 at *;clear ar G5 ad aU G HG;have aJ:=((AC w7.heap.size w7).drew).alloc (AD _) (.cells (dO p F fc) 43);have GL:=G7.call aJ;have ap:=x7.keep aJ x7.z;have am:∀j u,(nlV ⟨p,F,fc⟩)[j]? = some u->(w7.drew.alloc (.cells (dO p F fc) 43)).cell? ((⟨w7.heap.size,0,none⟩:Addr).add j)=some u:=λj u hu=>by
          have:=(AP w7.drew (dO p F fc) 43).cell j u hu;rw[DF,BL];exact this
         have aV:=fun(g cap:Nat) (w8:World) hown hg=>GL.addN (p:=p) (F:=F) (fc:=fc) (g:=g) (cap:=cap) (w8:=w8) (Ag aE aJ) ap bD bB.o.1 bB.o.2 hown hg;have HL:=gS am GL.hN.nown aV;obtain⟨-,k1,k2⟩:=G7.tx.c3;have bV:(w7.alloc (.cells (dO p F fc) 43)).cell? (gX bt 1)=some (.slice nA ns.length nc):=GL.tx.cell 1 _ rfl;have bW:(w7.alloc (.cells (dO p F fc) 43)).cell? (gX bt 2)=some (il (ER (ns.map dL):Int)):=GL.tx.cell 2 _ rfl;have bE:=gR x7 ap;have bF:=x7.cell;have ap:=ap.cell;have b8:(ns.length:Int)<=32:=gd;have ch:B2<=w7.heap.size:=G7.o5;clear am aV x7 aJ GL G7 aE;go_cut [] from 83 to 117 (λwx=>∃g cap,GO w B0 br bt P2 B2 A5 c5 l5 e5 sA sc ss (gY g 0) cap (ns++[⟨p,F,fc⟩]) p.id.toNat wx);case first=>
          rename_i J K1 hJ hK1;refine wp_region_held_drew (S:=λw'=>∀j u,([il p.id.toNat,il p.par.toNat,il p.seq.toNat,il p.off.toNat,il p.tim.toNat,im p.sch.toNat,.slice F p.ms.length fc]:List Value)[j]? = some u->w'.cell? (gX b3 j)=some u) gh ?_ (λhHeld=>?_)
          .exact bE.o.1.cell
          refine tK 0 ?_;refine ij 2 (v:=?_) ?_ ?_;rotate_left 1
          ·(intro w hSw;have q0:=hSw 0 _ rfl;have q1:=hSw 1 _ rfl;have q2:=hSw 2 _ rfl;have q3:=hSw 3 _ rfl;have q4:=hSw 4 _ rfl;have q5:=hSw 5 _ rfl;have q6:=hSw 6 _ rfl;go_simp;first|done|with_reducible rfl)
          refine ie ?_;refine tK 5 ?_;refine ij 6 (v:=?_) ?_ ?_;rotate_left 1
          ·(intro w hSw;have q0:=hSw 0 _ rfl;have q1:=hSw 1 _ rfl;have q2:=hSw 2 _ rfl;have q3:=hSw 3 _ rfl;have q4:=hSw 4 _ rfl;have q5:=hSw 5 _ rfl;have q6:=hSw 6 _ rfl;go_simp;first|done|with_reducible rfl)
          refine ie ?_;refine wpAnyH_ready (rs:=[1,3]) gh gj ?_;refine AllReadyH.cons rfl (λK hK=>?_) (AllReadyH.cons rfl (λK hK=>?_) (AllReadyH.nil))
          .go_simp;refine hK.out _ _ bF (λhHeld=>?_);clear hK K;refine ie ?_;refine rD 3 λK hK=>?_;go_simp;refine hK.out _ _ ap (λhHeld=>?_);clear hK K;refine ie ?_;refine rD 4 λK hK=>?_;refine Cw _ rfl (.tmp 97) (.tmp 99) 37 rfl B2 43 ti _ 7 72 underlying37 bC aR aS aT Ds.zs gm _ ns.length (BQ ns) (by simp[Act.eval,Act.put]) HL.o.2.1 _ 1 1 (nlV ⟨p,F,fc⟩) (by simp[Act.eval,Act.put]) rfl HL.o.1 (FU _) gd gq gd (by simp<;>omega) _ rfl ?_;intro g cap w8 Z ao _ _;obtain⟨d0,d1,d2,d3,d4,aG⟩:=HL.o.2.2 g cap w8 Z ao;have V:=gR d0 aG;clear Z ao aG;refine hK.out _ _ V.o.1.cell (λhHeld=>?_);clear hK K;refine ie ?_;refine tK 7 ?_;refine rD 8 λK hK=>?_;go_simp;refine hK.out _ _ (λj u hj=>(CL (p:=gX bt 1) (q:=gX b3 j) nb3 _).1.trans (V.o.1.cell j u hj)) (λhHeld=>?_);clear hK K;refine ie ?_;refine tK 9 ?_;refine rD 10 λK hK=>?_;go_simp;refine hK.out _ _ (λj u hj=>(CL (p:=gX bt 2) (q:=gX b3 j) nb3 _).1.trans ((CL (p:=gX bt 1) (q:=gX b3 j) nb3 _).1.trans (V.o.1.cell j u hj))) (λhHeld=>?_);clear hK K;refine ie ?_;refine wpAnyH_done gh ?_ _;refine hK1 _ _ ?_;go_meet;exact⟨_,cap,V.o.2⟩
          go_simp;refine hK.out _ _ ap (λhHeld=>?_);clear hK K;refine ie ?_;refine rD 1 λK hK=>?_;go_simp;refine hK.out _ _ ap (λhHeld=>?_);clear hK K;refine ie ?_;refine rD 4 λK hK=>?_;refine Cw _ rfl (.tmp 97) (.tmp 99) 37 rfl B2 43 ti _ 7 72 underlying37 bC aR aS aT Ds.zs gm _ ns.length (BQ ns) (by simp[Act.eval,Act.put]) HL.o.2.1 _ 1 1 (nlV ⟨p,F,fc⟩) (by simp[Act.eval,Act.put]) rfl HL.o.1 (FU _) gd gq gd (by simp<;>omega) _ rfl ?_;intro g cap w8 Z ao _ _;obtain⟨d0,d1,d2,d3,d4,aG⟩:=HL.o.2.2 g cap w8 Z ao;have V:=gR d0 aG;clear Z ao aG;refine hK.out _ _ V.o.1.cell (λhHeld=>?_);clear hK K;refine ie ?_;refine tK 7 ?_;refine rD 8 λK hK=>?_;go_simp;refine hK.out _ _ (λj u hj=>(CL (p:=gX bt 1) (q:=gX b3 j) nb3 _).1.trans (V.o.1.cell j u hj)) (λhHeld=>?_);clear hK K;refine ie ?_;refine tK 9 ?_;refine rD 10 λK hK=>?_;go_simp;refine hK.out _ _ (λj u hj=>(CL (p:=gX bt 2) (q:=gX b3 j) nb3 _).1.trans ((CL (p:=gX bt 1) (q:=gX b3 j) nb3 _).1.trans (V.o.1.cell j u hj))) (λhHeld=>?_);clear hK K;refine ie ?_;refine wpAnyH_done gh ?_ _;refine hK1 _ _ ?_;go_meet;exact⟨_,cap,V.o.2⟩
         case rest=>
         obtain⟨g,cap,G8⟩:=hcut;have bG:ER ((ns++[(⟨p,F,fc⟩:Nl)]).map dL)=p.id.toNat:=by rw[Cv];exact Uf _ _
         rw[<-bG]at G8;have V:=AB G8;have k8:=G8.rd.c1;have j8:=G8.rd.f1;have r8:=G8.tx.cell 1 _ rfl;have e1:(ns++[(⟨p,F,fc⟩:Nl)]).length=ns.length+1:=gj;rw[e1]at r8;obtain⟨tc,aj⟩:=ib (decide (32<ns.length+1));have t3:decide ((32:Int)<((ns.length+1:Nat):Int))=tc:=by rw[aj,Cx];simp only[BI];omega
         have t4:decide ((32:Int)<(ns.length:Int)+1)=tc:=by rw[aj,Cx];simp only[BI];omega
         have aF:=AB aj;have bS:IntKind.u64.wrap ((m:Int)-1)=(m:Int)-1:=by have:=ay.o;rw[BU];omega
         have bT:((m:Int)-1) % 18446744073709551616=(m:Int)-1:=by have:=ay.o;omega
         clear aj G8 HL bE bF ap k1 k2 bV bW;cases e5 with
         | false=>
           have au:ga (oN (m-1) l5 tc ((ns++[(⟨p,F,fc⟩:Nl)]).map dL)=R):=AB (by have:=ai.o;rw[<-aF.o]at this;simpa using this);clear ai;(go_wp2_with fail);go_roundw;case rel=>exact⟨m-1,A5,c5,l5,tc,_,cap,ns++[⟨p,F,fc⟩],by have:=ay.o;congr 1;omega,gd,(λhh=>by rw[aF.o]at hh;simp at hh;simp;omega),au,V.o.why tc⟩
           case measure=>have:=ay.o;simp[intOf];omega
         | true=>
           have au:ga (oN (m-1) l5 true ((ns++[(⟨p,F,fc⟩:Nl)]).map dL)=R):=AB (by have:=ai.o;simpa using this);clear ai;(go_wp2_with fail);go_roundw;case rel=>exact⟨m-1,A5,c5,l5,true,_,cap,ns++[⟨p,F,fc⟩],by have:=ay.o;congr 1;omega,gd,(λhh=>by cases hh),au,V.o.why true⟩
           case measure=>have:=ay.o;simp[intOf];omega
       | false=>
         have hq:oN m l' e' (ns.map dL)=(ns.map dL,l',e'):=Ue (by
          cases e' with
          | true=>exact .inr rfl
          | false=>exact .inl (Nat.eq_zero_of_not_pos λq=>by rw[AF q]at T;cases T))
         rw[ah.o]at hq;have aq:ga (opn ((BO l).drop 3)=(ss.map dK,ns.map dL,e')):=AB (by rw[bU.o,hq]);have r0:=G.rb.cell 0 _ rfl;have bH:=G.rb.free 0 gj;have u0:=G.tx.cell 0 _ rfl;have r1:=G.rb.cell 1 _ rfl;have bI:=G.rb.free 1 gj;have u1:=G.tx.cell 1 _ rfl;have r2:=G.rb.cell 2 _ rfl;have bJ:=G.rb.free 2 gj;have u2:=G.tx.cell 2 _ rfl;clear hq ah aa aB G;cases e' with
         | true=>
           (go_wp2_with fail);(try simp only[Exit.inBlock,Exit.then]);refine AW (BA (b:=B0) rfl _ _ rfl HG.o.rb.set3b) rfl ?_;exact Hm (er:=102) (LX HB.o.2 HM.o aq.o (.inl rfl)) gm (BV HG.o.bel HG.o.o3)
         | false=>
           (go_wp2_with fail);refine(LW wc sA sc ss nA nc ns (ER (ns.map dL)) HG.o.all.tab (HT.o.below HG.o.bel aK)).mono ?_;rintro e w6 (⟨hrp,v,rfl,hv,ab⟩|⟨hrp,rfl,ab⟩)
           .obtain⟨Ac,cc,rfl,a8⟩:=Rd.of_own hv;have bK:=AM HG.o.bel HG.o.bel.size ab;have bL:=AB (HG.o.call ab);have bM:=(hr.below bK).more bK.size;obtain⟨L,hL⟩:=ia (wrS (ss.map dK) (ns.map dL));rw[hL]at a8 ⊢;have HL:=AB hL;clear hv ab hL;(go_wp2_with fail);refine(Ky w6 w6.heap.size _ _ _ _ Ac A L l a8 bM (AD _)).mono ?_;rintro e w7 ⟨rfl,ad⟩;have I:=AB (bL.o.call ad);have bX:=AB hrp;clear a8 bM ad hrp bL r0 r1 r2 bH bI bJ u0 u1 u2;have bY:=I.o.rb.cell 0 _ rfl;have bN:=I.o.rb.free 0 gj;have bZ:=I.o.tx.cell 0 _ rfl;have b0:=I.o.rb.cell 1 _ rfl;have bO:=I.o.rb.free 1 gj;have b1:=I.o.tx.cell 1 _ rfl;have b2:=I.o.rb.cell 2 _ rfl;have bP:=I.o.rb.free 2 gj;have b5:=I.o.tx.cell 2 _ rfl;by_cases az:L=l
            .have t5:(L==l)=true:=by rw[Ap];exact az
             have HE:=AB (Pk HB.o.2 HM.o aq.o (by rw[HL.o,bX.o];rintro(q|q|q);cases q;cases q;exact q az));rw[t5];clear az t5;(go_wp2_with fail);(try simp only[Exit.inBlock,Exit.then]);refine AW (BA (b:=B0) rfl _ _ rfl I.o.rb.set3b) rfl ?_;exact W7 HE.o aq.o ((I.o.all.set3b (Nat.lt_succ_of_lt (Nat.lt_trans I.o.o1 I.o.o2))).base (Nat.le_succ_of_le (AS I.o.o3 (Ad (Nat.lt_trans I.o.o1 I.o.o2))))) (BV I.o.bel I.o.o3)
            have t5:(L==l)=false:=by rw[AQ];exact az
            have HE:=AB (LX HB.o.2 HM.o aq.o (.inr (.inr (by rw[HL.o];exact az))));rw[t5];clear az t5;(go_wp2_with fail);(try simp only[Exit.inBlock,Exit.then]);refine AW (BA (b:=B0) rfl _ _ rfl I.o.rb.set3b) rfl ?_;exact Hm (er:=102) HE.o gm (BV I.o.bel I.o.o3)
           have HE:=AB (LX HB.o.2 HM.o aq.o (.inr (.inl hrp)));have I:=AB (HG.o.call ab);clear ab hrp r0 r1 r2 bH bI bJ u0 u1 u2;have bY:=I.o.rb.cell 0 _ rfl;have bN:=I.o.rb.free 0 gj;have bZ:=I.o.tx.cell 0 _ rfl;have b0:=I.o.rb.cell 1 _ rfl;have bO:=I.o.rb.free 1 gj;have b1:=I.o.tx.cell 1 _ rfl;have b2:=I.o.rb.cell 2 _ rfl;have bP:=I.o.rb.free 2 gj;have b5:=I.o.tx.cell 2 _ rfl;(go_wp2_with fail);(try simp only[Exit.inBlock,Exit.then]);refine AW (BA (b:=B0) rfl _ _ rfl I.o.rb.set3b) rfl ?_;exact Hm (er:=102) HE.o gm (BV I.o.bel I.o.o3)
