/- For CatalogEntries. -/
import Derived.Test.YtpfofefecamkfaaGreatDoorZ3
import Derived.Test.YtpfofefecamkfaaGreatDoorZ8
import Derived.Test.YtpfofefecamkfaaGreatDoorZ12
namespace Go.Proofs.YtpfofefecamkfaaGreatDoor
open Go.RowKit Proofs.Tryz
set_option maxRecDepth 100000
set_option maxHeartbeats 16000000
set_option linter.all false
theorem VM (w A c l)(hr:Rd w w.heap.size 1 A l.length c (AO l))(ht:Dx w)(hl:l.length<=1000000):
 Calls prog 145 #[.slice A l.length c] w (PK w l):=by
 have HT:=AB ht;have aq:=ht.pos;clear ht;go_enter func145,ntmps145;go_wp2_with fail
 refine(OO w _ c A l hr HT.o hl).mono ?_;intro e w1 he;obtain⟨Z,A1,c1,rfl,V⟩:=OR he;have aF:=AB hr;clear he hr;cases ho:BT l with
 | none=>
   have HE:=AB (V2 ho);simp only[Option.getD_none,Option.isSome_none,List.length_nil];clear ho V;(go_wp2_with fail);go_ret2;exact Gm HE.o Z
 | some body=>
   rw[ho]at V;simp only[Option.getD_some,Option.isSome_some]at V ⊢;have HO:=AB ho;have aG:ga (body.length<=1000000):=AB (by
    unfold BT at ho;split at ho
    .injection ho with ho;rw[<-ho,BN];omega
    .cases ho)
   have ar:body.length<=9223372036854775807:=by have:=aG.o;omega
   clear ho;by_cases h3:body.length<3
   .have t1:=gG body.length 3;have HE:=AB (P5 HO.o (.inl h3));clear V;(go_wp2_with fail);go_ret2;exact Gm HE.o Z
   have t1:=gH body.length 3;have ag:=V.le;have u1:=λk W=>Ev (P:=prog) As A1 body.length c1 k (3:Int) 3 rfl gd W;have u2:=λk W=>EN (P:=prog) As A1 body.length c1 k (3:Int) 3 rfl gd W;have ah:Rd w1 w1.heap.size 1 A1 3 c1 (AO (body.take 3)):=by
    have:=V.pre (hi:=3) gd;simpa [AO,List.map_take]using this
   have ai:=Eb (P:=prog) w1 underlying55 underlying5 underlying9 ah;have H3:=AB h3;clear ah;by_cases hq:body.take 3≠mf1
   .have HE:=AB (P5 HO.o (.inr hq));have aP:=VL hq;generalize (⟨(body.take 3).toArray⟩:ByteArray)=pre at *;clear V hq h3 ag;(go_wp2_with fail);go_ret2;exact Gm HE.o Z
   have hq:body.take 3=mf1:=Decidable.of_not_not hq;have HM:ga (¬(body.length<3\/body.take 3≠mf1)):=AB (by rintro(q|q);exact H3.o q;exact q hq);have au:(⟨(body.take 3).toArray⟩:ByteArray)=⟨#[77,70,49]⟩:=by rw[hq];rfl
   rw[au]at ai;obtain⟨A2,l2,av,s1,s2,aw⟩:=JC V (lo:=3) gd;have s1:∀k W,(Instr.sliceAt 55 (.slice A1 body.length c1) (some (.int k (3:Int))) none none).run prog W = .ok (.slice A2 l2.length (c1-3)) W:=s1;have s2:∀k W,(Instr.slice 55 (.slice A1 body.length c1) (some (.int k (3:Int))) none none).run prog W = .ok (.slice A2 l2.length (c1-3)) W:=s2;have aH:=AB av;clear V hq au h3 ag av ar;(go_wp2_with fail);have R2:=OV w1 (P:=λk=>k<w1.heap.size) aw 267 (λk hk=>hk) (λq=>Nat.lt_irrefl _ q);have ax:=hI w1 (.cells #[.slice A2 l2.length (c1-3),.bool false] 267);have ay:=AM Z Z.size ax;have zb:=Z.size;generalize w1.alloc _=w2 at *;generalize w1.heap.size=br at *;have G2:GOE2 w br A2 (c1-3) l2 false none 0 [] w2:=⟨R2,dQ.nil _ _,ay,zb⟩;clear R2 ax aw ay u1 u2 s1 s2 ai Z;refine(Fc w2 br _ A2 (c1-3) l2 false G2.rd 64 gm).mono ?_;rintro e w4 ⟨rfl,⟨A4,c4,h4⟩,ho4⟩;have ae:=GF 64 l2 false;obtain⟨N,l4,b4,hn⟩:∃n l' b',dT 64 l2 false=(n,l',b'):=⟨_,_,_,rfl⟩;rw[hn]at h4 ae ⊢;dsimp only at h4 ae ⊢;have G4:=G2.go h4 ho4;obtain⟨Q,hQ⟩:=ia (Ej N l4 b4 []);have HQ:=AB hQ;have HE:ga (ents body=Q):=AB (by unfold ents;rw[<-aH.o,hn];exact hQ);clear hn hQ h4 ho4 G2;(go_wp2_with fail);go_loopw [8,7] (GOR w br Q) (λiv _ _=>(intOf iv).toNat);case atStart=>exact⟨N,A4,c4,l4,b4,none,0,[],rfl,rfl,by simpa using ae,HQ,G4⟩
   case round=>
    clear G4 ae;obtain⟨m,A',c',l',e',lA,lc,ls,rfl,rfl,az,aa,G⟩:=hrel;have k1:=G.rd.c1;have HG:=AB G;cases e' with
    | true=>
      have hq:=P3 (n:=m) (l:=l') (bad:=true) (acc:=ls.map El.p) (.inr rfl);rw[aa.o]at hq;have I:=AB (V3 HO.o HM.o (by rw[HE.o,hq]));clear hq aa G;by_cases hm:m=0
      .have t2:=gH 0 m;have t3:¬ 0<m:=gd;(go_wp2_with fail);go_ret2;exact Gm I.o HG.o.bel
      have t2:=gG 0 m;(go_wp2_with fail);go_ret2;exact Gm I.o HG.o.bel
    | false=>
      by_cases hm:m=0
      .have hq:=P3 (n:=m) (l:=l') (bad:=false) (acc:=ls.map El.p) (.inl hm);rw[aa.o]at hq;have ab:ga (ents body=(ls.map El.p,l',false)):=AB (HE.o.trans hq);have HB:ga (¬(ents body).2.2=true):=AB (by rw[ab.o];simp);have t2:=gH 0 m;have t3:¬ 0<m:=gd;have aI:ls.length<=64:=gd;clear hq aa G az;(go_wp2_with fail);refine(Oz wr lA lc ls HG.o.own.rd (HT.o.below HG.o.bel aq)).mono ?_;rintro e w5 ⟨hb5,(⟨her,v5,rfl,hown5⟩|⟨her,rfl⟩)⟩
       .obtain⟨A5,c5,rfl⟩:=BK hown5;have aJ:=Ay hown5;have O:=HG.o.bel.trans (hb5.mono HG.o.bel.size);have aK:=(aF.o.below O).more O.size;have aL:=AB (HG.o.own.keep hb5);have aM:=AB her;clear her hown5 k1;(go_wp2_with fail);refine(Ky w5 w5.heap.size _ c5 _ c A5 A _ l aJ aK (AD _)).mono ?_;rintro e w6 ⟨rfl,hb6⟩;have aj:=AM O O.size hb6;cases hq:(Bq (ls.map El.p)==l)with
        | true=>
          have I:=AB (P7 HO.o HM.o HB.o (by rw[ab.o];exact⟨aM.o,Ap.1 hq⟩));clear hq;(go_wp2_with fail);go_ret2;refine⟨aj,lA,lc,ls,by rw[I.o];rfl,by rw[I.o,ab.o],aI,(aL.o.keep hb6).base ?_⟩;have:=HG.o.o1;omega
        | false=>
          have I:=AB (P6 HO.o HM.o HB.o (by rw[ab.o];rintro⟨_,q⟩;have q:Bq (ls.map El.p)=l:=q;rw[q,beq_self_eq_true]at hq;cases hq));clear hq;(go_wp2_with fail);go_ret2;exact Gm I.o aj
       have I:=AB (P6 HO.o HM.o HB.o (by rw[ab.o];rintro⟨q,_⟩;exact her q));have aQ:=gM (BR (ls.map El.p)) 0;have O:=HG.o.bel.trans (hb5.mono HG.o.bel.size);generalize BR (ls.map El.p)=er at *;clear her k1;(go_wp2_with fail);go_ret2;exact Gm I.o O
      have hq:=aa.o;rw[show m=(m-1)+1 by omega,P4]at hq;have aB:=AB hq;have t2:=gG 0 m;have ak:ga (0<m):=AB gd;clear hq aa;(go_wp2_with fail);refine(VB wr br _ A' c' l' false G.rd).mono ?_;rintro e w5 ⟨F,fc,rfl,h8,hown5,⟨A5,c5,rd5⟩,ho5⟩;obtain⟨T,hT⟩:=ia (EH l' false);obtain⟨x5,l5,e5⟩:=T;rw[hT]at rd5 hown5 h8 ⊢;dsimp only[elA]at rd5 hown5 h8 ⊢;have aN:ga (Ej (m-1) l5 e5 ((ls++[(⟨x5,F,fc⟩:El)]).map El.p)=Q):=AB (by have q:=aB.o;rw[hT]at q;rw[Cv];exact q);have G5:=G.go rd5 ho5;have aO:br+1<=wr.heap.size:=G.rd.z;have aC:=B4 hown5 aO;have af:=hI w5 (.cells (elA x5 F fc) 97);have G6:=G5.keep af;have am:=Ag aC af;have ao:Rd (w5.alloc (.cells (elA x5 F fc) 97)) (w5.heap.size+1) 6 (gY w5.heap.size 0) 1 1 (elV ⟨x5,F,fc⟩):=Rd.lit (n:=1) (sz:=6) w5 97 (elA x5 F fc) rfl gn;have aD:br+1<=(w5.alloc (.cells (elA x5 F fc) 97)).heap.size:=by have:=ho5.size;have:=af.size;omega
      have ap:=G6.own.own;dsimp only[elA]at ao aD G6 am ap;clear hT af rd5 ho5 G5 aC hown5 aB k1 HG G;go_wp2_with (at_builtin;refine Aw _ E4 rfl (.tmp 44) (.tmp 47) rfl (br+1) _ ls.length (Ax ls) rfl ap (w5.heap.size+1) _ 1 1 (elV ⟨x5,F,fc⟩) rfl ao (Fb _) gd aD ?_;intro v8 w8 ad aE _)
      obtain⟨g,cap,rfl,G8⟩:=G6.snoc (x:=⟨x5,F,fc⟩) am ad aE;clear ad aE G6 am ap ao;(go_wp2_with fail);go_roundw;case rel=>exact⟨m-1,A5,c5,l5,e5,_,cap,ls++[⟨x5,F,fc⟩],by have:=ak.o;congr 1;omega,rfl,by have:=ak.o;rw[AR,Ea];omega,aN,G8⟩
      case measure=>have:=ak.o;simp[intOf];omega
theorem VQ (w x SA sc)(hr:Rd w w.heap.size 10 SA x.stats.length sc (BH x.stats))(hl:x.stats.length<=1000000):
 Calls prog 188 #[.agg (elA x SA sc)] w λe w'=>Below w.heap.size w w'/\∃F fc,e = .returned (.agg (elA x F fc))/\w'.ownsRow w.heap.size 201 10 (.slice F x.stats.length fc) x.stats.length (BH x.stats):=by
 obtain⟨y1,T⟩:=gZ w (elA x SA sc) 97;have z1:(w.alloc (.cells (elA x SA sc) 97)).heap.size=w.heap.size+1:=gj;simp only[elA]at y1 T z1 ⊢;go_enter func188,ntmps188;go_upto_region 1 with fail
 generalize w.alloc _=wa at *;obtain⟨y2,V⟩:=gZ wa #[.string ⟨#[]⟩,.bool false,il 0,io 0,im 0,ir] 97;have y3:=y1.keep V y1.z;have O:=AM T T.size V;rw[z1]at y2;generalize wa.alloc _=wb at *;have Z:=(hr.below O).more O.size;have k5:=y3.cell 5 _ rfl;obtain⟨b1,G⟩:∃b,b=w.heap.size:=⟨_,rfl⟩;obtain⟨b2,I⟩:∃b,b=w.heap.size+1:=⟨_,rfl⟩;rw[<-I]at y2;rw[<-G]at y3 k5;rw[<-I,<-G];have n1:b1≠b2:=gd;have:b2≠b1:=gd;have l1:b1<wb.heap.size:=y3.z;have l2:b2<wb.heap.size:=y2.z;have HE:=gR G I;clear y1 T V z1 hr G I;clear wa;go_wp2_with fail
 refine(VP wb wb.heap.size _ sc SA _ Z (Uq _) gd (AD _)).mono ?_;rintro e w3 ⟨v3,rfl,hown3,hb3⟩;obtain⟨F,fc,rfl⟩:=BK hown3;have u1:=y3.keep hb3 l1;have u2:=y2.keep hb3 l2;have aa:=AM O O.size hb3;clear y3 y2 k5 Z O hb3;have:=u1.cell 0 _ rfl;have:=u2.cell 0 _ rfl;have:=u2.free 0 gj;have:=u1.cell 1 _ rfl;have z1:=u2.cell 1 _ rfl;have:=u2.free 1 gj;have:=u1.cell 2 _ rfl;have:=u2.cell 2 _ rfl;have:=u2.free 2 gj;have:=u1.cell 3 _ rfl;have:=u2.cell 3 _ rfl;have:=u2.free 3 gj;have:=u1.cell 4 _ rfl;have:=u2.cell 4 _ rfl;have:=u2.free 4 gj;have:=u1.cell 5 _ rfl;have:=u2.cell 5 _ rfl;have:=u2.free 5 gj;have:=u1.free 5 gj;have:=AB u1;have U2:=AB u2;clear u1 u2;go_wp2_with fail
 (try simp only[Exit.inBlock,Exit.then]);have r1:=U2.o.else (p:=gX b1 5) n1 (.slice F x.stats.length fc);have r9:=((((((r1).set (j:=0) (.string x.name) rfl).set (j:=1) (.bool x.keys) rfl).set (j:=2) (il x.seq.toNat) rfl).set (j:=3) (io x.rows.toInt) rfl).set (j:=4) (im x.sch.toNat) rfl).set (j:=5) (.slice F x.stats.length fc) rfl;refine AW (LQ (b:=b2) rfl _ _ rfl r9) rfl ?_;refine⟨((((((aa.setCell (p:=gX b1 5) (by show w.heap.size<=b1;have:=HE.o.1;omega) _).setCell (p:=gX b2 0) (by show w.heap.size<=b2;have:=HE.o.2;omega) _).setCell (p:=gX b2 1) (by show w.heap.size<=b2;have:=HE.o.2;omega) _).setCell (p:=gX b2 2) (by show w.heap.size<=b2;have:=HE.o.2;omega) _).setCell (p:=gX b2 3) (by show w.heap.size<=b2;have:=HE.o.2;omega) _).setCell (p:=gX b2 4) (by show w.heap.size<=b2;have:=HE.o.2;omega) _).setCell (p:=gX b2 5) (by show w.heap.size<=b2;have:=HE.o.2;omega) _,F,fc,rfl,B4 (B6 (B6 (B6 (B6 (B6 (B6 (B6 hown3 (a:=gX b1 5) l1 _) (a:=gX b2 0) l2 _) (a:=gX b2 1) l2 _) (a:=gX b2 2) l2 _) (a:=gX b2 3) l2 _) (a:=gX b2 4) l2 _) (a:=gX b2 5) l2 _) (by have:=HE.o;omega)⟩
theorem VS (w A c ls)(hr:Rd w w.heap.size 1 A ls.length c (Fe ls))(hi:∀x∈ls,EnR w w.heap.size x.A x.c x.l)(hsm:∀x∈ls,∀y∈x.l,y.p.name.size<=9223372036854775807/\y.p.stats.length<=1000000)(L:List (List En))(hL:L=ls.map λx=>x.l.map El.p)(hsz:L.flatten.length<=1000000):
 Calls prog 146 #[.slice A ls.length c] w (VR w (ES L)):=by
 have:ls.length<=9223372036854775807:=by have h3:=hr.le;have h4:=hr.cap;unfold maxLen at h4;omega
 have:L.length=ls.length:=by rw[hL,Ae]
 have aL:∀i,L.getD i []=(ls.getD i default).l.map El.p:=λi=>by
  rw[hL,BW,BW,DY];cases ls[i]? <;> rfl
 clear hL;have a3:=@run_makeMap prog;have aD:=Ox w;have aM:=hI w (.map #[] 0);go_enter func146,ntmps146;go_wp2_with fail
 generalize w.alloc _=w0 at *;obtain⟨mb,V⟩:∃b,b=w.heap.size:=⟨_,rfl⟩;rw[<-V]at aD;rw[<-V];have a4:=AB V;clear V a3;go_loopw [4,12] (λv4 iv wr=>∃(i:Nat) (oA:Option Addr) (oc:Nat) (out:List El),v4 = .slice oA out.length oc/\iv = io i/\i<=ls.length/\ga (out.map El.p=mg (L.take i).flatten)/\dQ wr w.heap.size oA oc out/\Met wr mb (ET out)/\Below w.heap.size w wr) (λ_ iv _=>ls.length-(intOf iv).toNat);case atStart=>exact⟨0,none,0,[],rfl,rfl,AU _,AB (by simp[mg]),dQ.nil _ _,aD,aM⟩
 case round=>
  clear aD aM;obtain⟨i,oA,oc,out,rfl,rfl,bh,G,hO,hM,I⟩:=hrel;by_cases aq:i<ls.length
  .obtain⟨lb,lo,rfl,a5,aN⟩:=hr.llA aq;have ad:=hi (ls.getD i default) (B9 aq);have ar:=hsm (ls.getD i default) (B9 aq);have au:=aL i;obtain⟨X,hX⟩:=ia (ls.getD i default);have Z:=aN X hX;rw[hX]at ad au ar;obtain⟨xl,xA,xc⟩:=X;dsimp only at ad au Z ar;have aE:(L.take (i+1)).flatten=(L.take i).flatten++xl.map El.p:=by rw[<-au];exact PO gd
   have aO:=AB aE;have aP:ga (((L.take i).flatten++xl.map El.p).length<=1000000):=AB (by rw[<-aE];exact AS (PP _ _) hsz);obtain⟨Q,hQ⟩:=ib ((L.take i).flatten);rw[<-hQ]at aO aP G;have:xl.length<=9223372036854775807:=by have h3:=ad.row.le;have h4:=ad.row.cap;unfold maxLen at h4;omega
   have a7:=AB ar;have a8:=(I.cell (p:=gX lb (lo+i)) a5).trans Z;clear aN hX au aE hQ ar Z;(go_wp2_with fail);go_loopw [4,18] (λv4 iv wq=>∃(k:Nat) (oA:Option Addr) (oc:Nat) (out:List El),v4 = .slice oA out.length oc/\iv = io k/\k<=xl.length/\ga (out.map El.p=mg (Q++(xl.map El.p).take k))/\dQ wq w.heap.size oA oc out/\Met wq mb (ET out)/\Below w.heap.size w wq) (λ_ iv _=>xl.length-(intOf iv).toNat);case atStart=>exact⟨0,oA,oc,out,rfl,rfl,AU _,AB (by rw[G.o];simp),hO,hM,I⟩
   case round=>
    clear G hO hM I a8;obtain⟨k,oA,oc,out,rfl,rfl,hk,G,hO,hM,I⟩:=hrel;have:out.length<=1000000:=by
     have:out.length=(mg (Q++(xl.map El.p).take k)).length:=by rw[<-G.o,Ae]
     have h2:=Jf (Q++(xl.map El.p).take k);have h3:=aP.o;rw[AR]at h2 h3;rw[BN]at h2;omega
    by_cases ae:k<xl.length
    .obtain⟨xb,xo,rfl,af,aQ⟩:=ad.row.elA ae;have az:=ad.ins (xl.getD k default) (B9 ae);have aR:=a7.o (xl.getD k default) (B9 ae);have av:mg (Q++(xl.map El.p).take (k+1))=Ck (mg (Q++(xl.map El.p).take k)) (xl.getD k default).p:=by
      rw[PN (by rw[Ae];exact ae),<-Az,PM,Ht]
     obtain⟨x,hx⟩:=ia (xl.getD k default);obtain⟨q0,q1,q2,q3,q4,q5⟩:=aQ x hx;rw[hx]at az av aR;rw[<-G.o]at av;have aS:=AB av;have aT:w.heap.size<=wr.heap.size:=I.size;have x0:=(I.cell (p:=gX xb (xo+k * 6)) af).trans q0;have x1:=(I.cell (p:=gX xb (xo+k * 6+1)) af).trans q1;have x2:=(I.cell (p:=gX xb (xo+k * 6+2)) af).trans q2;have x3:=(I.cell (p:=gX xb (xo+k * 6+3)) af).trans q3;have x4:=(I.cell (p:=gX xb (xo+k * 6+4)) af).trans q4;have x5:=(I.cell (p:=gX xb (xo+k * 6+5)) af).trans q5;obtain⟨y,ag⟩:=gZ wr (eNV x.p x.A x.c) 97;have aF:=hO.keep ag;have ah:=hM.keep ag;have ai:=I.trans (ag.mono aT);have aU:wr.heap.size≠mb:=by have:=hM.lt;omega
     have aB:=AS aT ag.size;clear aQ hx av q0 q1 q2 q3 q4 q5 G hO hM I;(go_upto_region 9 with fail);generalize wr.alloc _=wA at *;generalize wr.heap.size=yb at *;have u0:=y.cell 0 _ rfl;have aa:=ah.look x.p.name gn;clear x0 x1 x2 x3 x4 x5 ag;cases hh:Ca (ET out) x.p.name with
     | true=>
       rw[hh]at aa;have T:ga (out.map El.p=mg (Q++(xl.map El.p).take (k+1))):=AB (by rw[aS.o];unfold Ck;rw[AJ (show Ca ((out.map El.p).map En.name) x.p.name=true from hh)]);clear hh;(go_wp2_with fail);go_roundw;case rel=>exact⟨k+1,oA,oc,out,rfl,by go_num,ae,T,aF,ah,ai⟩
       case measure=>simp[intOf];omega
     | false=>
       rw[hh]at aa;have T:ga ((out.map El.p)++[x.p]=mg (Q++(xl.map El.p).take (k+1))):=AB (by rw[aS.o];unfold Ck;rw[AE (by intro r;have r:Ca (ET out) x.p.name=true:=r;rw[hh]at r;cases r)]);clear hh;obtain⟨w6,aV,aW,aw⟩:=ah.put x.p.name gn (by unfold ET;rw[Ae,Ae];unfold maxLen;omega);obtain⟨bj,bk,V⟩:=ah.isMap;have y6:=y.map aw aU;have aX:=aF.map V aw;have aC:=LJ (B:=w.heap.size) aw (by rw[a4.o];exact AD _) aB;have O:=ai.trans aC;(go_upto_region 11 with fail);obtain⟨u0,u1,u2,u3,u4,u5⟩:=y6.c6;have aj:=(az.below O).more O.size;clear aV aa V aw ah y y6 aF ai aC aB;(go_wp2_with fail);refine(VQ w6 x.p x.A x.c aj aR.2).mono ?_;rintro e w7 ⟨hb7,F,fc,rfl,hown7⟩;have aY:=aX.keep hb7;have aZ:=aW.keep hb7;have ak:=AM O O.size hb7;have a0:=B4 hown7 O.size;have am:=hI w7 (.cells (elA x.p F fc) 97);have ax:=aY.keep am;have aG:=aZ.keep am;have aH:=Ag a0 am;have ab:=AM ak ak.size am;have ao:=ax.own;have aI:Rd (w7.alloc (.cells (elA x.p F fc) 97)) (w7.heap.size+1) 6 (gY w7.heap.size 0) 1 1 (elV ⟨x.p,F,fc⟩):=Rd.lit (n:=1) (sz:=6) w7 97 (elA x.p F fc) rfl gn;have aJ:w.heap.size<=(w7.alloc (.cells (elA x.p F fc) 97)).heap.size:=ab.size;dsimp only[elA]at aI ao aJ ax aG aH ab ⊢;clear hown7 hb7 aY aZ ak a0 am aX aW O u0 u1 u2 u3 u4 u5 aj;go_wp2_with (at_builtin;refine Aw _ E4 rfl (.tmp 30) (.tmp 33) rfl w.heap.size _ out.length (Ax out) rfl ao (w7.heap.size+1) _ 1 1 (elV ⟨x.p,F,fc⟩) rfl aI (Fb _) gd aJ ?_;intro v9 w9 ap ay _)
       obtain⟨g,cap,rfl,a9⟩:=ax.snoc (x:=⟨x.p,F,fc⟩) aH ap ay;have aK:=aG.app ao ay;have a1:=Au ab (AD _) ao ay aJ;have ba:ga (Met w9 mb (ET (out++[(⟨x.p,F,fc⟩:El)]))):=AB (by unfold ET at aK ⊢;rw[Cv,Cv];exact aK);clear ap ay ax aG aH ao aI aK ab;(go_wp2_with fail);go_roundw;case rel=>exact⟨k+1,_,cap,out++[⟨x.p,F,fc⟩],rfl,by go_num,ae,AB (by rw[<-T.o,Cv];rfl),a9,ba.o,a1⟩
       case measure=>simp[intOf];omega
    have T:ga (out.map El.p=mg (L.take (i+1)).flatten):=AB (by rw[G.o,aO.o,CF (by rw[Ae];omega)]);clear G;(go_wp2_with fail);go_roundw;case rel=>exact⟨i+1,oA,oc,out,rfl,by go_num,aq,T,hO,hM,I⟩
    case measure=>simp[intOf];omega
  have a2:ga (out.map El.p=ES L):=AB (by rw[G.o,CF gd];rfl);clear G;go_wp2_with fail
  go_ret;exact⟨I,oA,oc,out,rfl,a2.o,hO⟩
theorem PV (w s):Calls prog 150 #[.string s] w λe w'=>e = .returned (.bool (Aq s))/\Below w.heap.size w w':=by
 by_cases h1:s.size<1
 .rw[Kd h1];have t1:=gG s.size 1;clear h1;go_enter func150,ntmps150;go_wp2_with fail
  go_ret;exact⟨rfl,AC _ _⟩
 have t1:=gH s.size 1;by_cases h2:24<s.size
 .rw[Ga h2];have t2:=gG 24 s.size;clear h1 h2;go_enter func150,ntmps150;go_wp2_with fail
  go_ret;exact⟨rfl,AC _ _⟩
 have t2:=gH 24 s.size;rw[Ke gd gd];have:s.size<=24:=gd;obtain⟨res,I⟩:=ib (Bx s (BE s) s.size 0);rw[<-I];have O:=AB I;clear h1 h2 I;go_enter func150,ntmps150;go_wp2_with fail
 go_loopw [4] (λ_ w'=>∃(pos b:Nat),w'=w.iter s pos/\ga (Bx s (BE s) b pos=res)/\s.size<=pos+b) (λ_ w'=>s.size-w'.iterPos w.heap.size);case atStart=>exact⟨0,s.size,rfl,AB O.o.symm,gd⟩
 case round=>
  obtain⟨pos,b,rfl,hc,hb⟩:=hrel;by_cases hp:pos<s.size
  .have V:∀ty,(Instr.next (iq w.heap.size 0) true ty).run prog (w.iter s pos) = .ok (.tuple #[.bool true,io pos,.int .i32 (sgn s pos:Int)]) (w.iter s (pos+wid s pos)):=λty=>run_next_any w s pos ty hp;have Z:=F8 s pos hp;have HM:=AB (show s.size-(pos+wid s pos)<s.size-pos by omega);have HP:=AB hp;have HB:=AB hb;clear hb;generalize T:sgn s pos=c at *;have G:=AB T;clear T Z hp;rcases(show(c<45)\/(c=45)\/(c=46)\/(c=47)\/(48<=c/\c<=57)\/(58<=c/\c<=96)\/(97<=c/\c<=122)\/(123<=c)by omega)with g|g|g|g|g|g|g|g
   .have a1:=gJ 97 c;have a2:=gI c 122;have a3:=gJ 48 c;have a4:=gI c 57;have a5:=gL c 47;have a6:=gL c 45;have HO:ga (BE s pos=false):=AB (by rw[CJ s pos c G.o];exact AG gd);have HG:=AB g;clear g;(go_wp2_with fail);go_ret;have he:=hc.o;rw[Dm s _ b pos HP.o HB.o HO.o]at he;exact⟨by rw[<-he];rfl,(AC _ _).alloc (AD _) _⟩
   .have a1:=gJ 97 c;have a2:=gI c 122;have a3:=gJ 48 c;have a4:=gI c 57;have a5:=gL c 47;have a6:=gK c 45;have HO:ga (BE s pos=true):=AB (by rw[CJ s pos c G.o];exact AF gd);have HG:=AB g;clear g;(go_wp2_with fail);go_roundw;case rel=>
     obtain⟨b',h1,h2⟩:=EB s _ b pos HP.o HB.o HO.o;exact⟨_,b',rfl,AB (h1▸hc.o),h2⟩
    case measure=>simpa using HM.o
   .have a1:=gJ 97 c;have a2:=gI c 122;have a3:=gJ 48 c;have a4:=gI c 57;have a5:=gL c 47;have a6:=gL c 45;have HO:ga (BE s pos=false):=AB (by rw[CJ s pos c G.o];exact AG gd);have HG:=AB g;clear g;(go_wp2_with fail);go_ret;have he:=hc.o;rw[Dm s _ b pos HP.o HB.o HO.o]at he;exact⟨by rw[<-he];rfl,(AC _ _).alloc (AD _) _⟩
   .have a1:=gJ 97 c;have a2:=gI c 122;have a3:=gJ 48 c;have a4:=gI c 57;have a5:=gK c 47;have a6:=gL c 45;have HO:ga (BE s pos=true):=AB (by rw[CJ s pos c G.o];exact AF gd);have HG:=AB g;clear g;(go_wp2_with fail);go_roundw;case rel=>
     obtain⟨b',h1,h2⟩:=EB s _ b pos HP.o HB.o HO.o;exact⟨_,b',rfl,AB (h1▸hc.o),h2⟩
    case measure=>simpa using HM.o
   .have a1:=gJ 97 c;have a2:=gI c 122;have a3:=gI 48 c;have a4:=gI c 57;have a5:=gL c 47;have a6:=gL c 45;have HO:ga (BE s pos=true):=AB (by rw[CJ s pos c G.o];exact AF gd);have HG:=AB g;clear g;(go_wp2_with fail);go_roundw;case rel=>
     obtain⟨b',h1,h2⟩:=EB s _ b pos HP.o HB.o HO.o;exact⟨_,b',rfl,AB (h1▸hc.o),h2⟩
    case measure=>simpa using HM.o
   .have a1:=gJ 97 c;have a2:=gI c 122;have a3:=gI 48 c;have a4:=gJ c 57;have a5:=gL c 47;have a6:=gL c 45;have HO:ga (BE s pos=false):=AB (by rw[CJ s pos c G.o];exact AG gd);have HG:=AB g;clear g;(go_wp2_with fail);go_ret;have he:=hc.o;rw[Dm s _ b pos HP.o HB.o HO.o]at he;exact⟨by rw[<-he];rfl,(AC _ _).alloc (AD _) _⟩
   .have a1:=gI 97 c;have a2:=gI c 122;have a3:=gI 48 c;have a4:=gJ c 57;have a5:=gL c 47;have a6:=gL c 45;have HO:ga (BE s pos=true):=AB (by rw[CJ s pos c G.o];exact AF gd);have HG:=AB g;clear g;(go_wp2_with fail);go_roundw;case rel=>
     obtain⟨b',h1,h2⟩:=EB s _ b pos HP.o HB.o HO.o;exact⟨_,b',rfl,AB (h1▸hc.o),h2⟩
    case measure=>simpa using HM.o
   have a1:=gI 97 c;have a2:=gJ c 122;have a3:=gI 48 c;have a4:=gJ c 57;have a5:=gL c 47;have a6:=gL c 45;have HO:ga (BE s pos=false):=AB (by rw[CJ s pos c G.o];exact AG gd);have HG:=AB g;clear g;(go_wp2_with fail);go_ret;have he:=hc.o;rw[Dm s _ b pos HP.o HB.o HO.o]at he;exact⟨by rw[<-he];rfl,(AC _ _).alloc (AD _) _⟩
  have V:∀ty,(Instr.next (iq w.heap.size 0) true ty).run prog (w.iter s pos)=_:=λty=>run_next_end w s pos ty hp;have he:=hc.o;rw[GV s _ b pos hp]at he;have HE:=AB he;clear he;go_wp2_with fail
  go_ret;exact⟨by rw[<-HE.o];rfl,(AC _ _).alloc (AD _) _⟩
theorem Vf (P w sb mb N s)(h:StR P w sb mb N s)(hP:∀k,w.heap.size<=k->P k)(hN:N<=1000000)(nm)(hn:nm.size<=maxLen)(A c bs)(hr:RdP w (λk=>k≠sb/\k≠mb) A bs.length c bs):
 Calls prog 78 #[iq sb 0,.string nm,.slice A bs.length c] w (Jj P w sb mb (N+1) (s.put nm bs)):=by
 have c6:=h.bx.cell 6 _ rfl;have aR:bs.length<=9223372036854775807:=by have h1:=hr.rd.le;have h2:=hr.rd.cap;unfold maxLen at h2;omega
 cases hd:s.dead with
 | true=>
   rw[hd]at c6;have HG:=AB (So.put_dead hd nm bs);clear hd;go_enter func78,ntmps78;(go_wp2_with fail);go_ret;rw[HG.o];exact⟨rfl,h.mono (Nat.le_succ _),Ost.refl _ _ _⟩
 | false=>
 rw[hd]at c6;have HD:=AB hd;clear hd;go_enter func78,ntmps78;go_wp2_with fail
 refine(PV w nm).mono ?_;rintro e w1 ⟨rfl,hb1⟩;have h1:=h.keep hb1;have ao:∀k,w1.heap.size<=k->P k:=λk hk=>hP k (AS hb1.size hk);have ap:=hr.low hb1;clear c6 h hr;cases hp:Aq nm with
 | false=>
   have HG:=AB (So.put_name HD.o hp bs);clear hp;(go_wp2_with fail);go_ret;rw[HG.o];exact⟨rfl,h1.mono (Nat.le_succ _),.of hb1⟩
 | true=>
 have HP:=AB hp;clear hp;go_wp2_with fail
 refine(Va P w1 sb mb N s h1 nm hn).mono ?_;rintro e w2 ⟨rfl,hb2⟩;have h2:=h1.keep hb2;have aq:∀k,w2.heap.size<=k->P k:=λk hk=>ao k (AS hb2.size hk);have ar:=ap.low hb2;have T:=AM hb1 hb1.size hb2;clear h1 ap hb1 hb2 ao;clear w1;cases hh:CR s.m nm with
 | true=>
   have HG:=AB (So.put_there HD.o HP.o hh bs);clear hh;(go_wp2_with fail);go_ret;rw[HG.o];exact⟨rfl,h2.mono (Nat.le_succ _),.of T⟩
 | false=>
 have HH:=AB hh;clear hh;by_cases G:65536<bs.length
 .have aG:=gG 65536 bs.length;have HG:=AB (So.put_long HD.o HP.o HH.o G);clear G;go_wp2_with fail
  go_ret;rw[HG.o];exact⟨rfl,h2.mono (Nat.le_succ _),.of T⟩
 have aG:=gH 65536 bs.length;have au:=AB G;have aP:bs.length<=65536:=gd;clear G;obtain⟨q1,q2,q3,q4,q5,q6,q7,q8,q9⟩:=h2.ok;have aH:wrap64 (s.quota-s.used)=s.quota-s.used:=F7 _ ⟨gd,gd⟩;obtain⟨c0,c1⟩:=h2.bx.c2;have aS:0<=s.used:=gd;clear q3 q5 q6 q7 q8 q9;obtain⟨qb,ag⟩:∃b,b=decide (s.quota-s.used<(bs.length:Int)):=⟨_,rfl⟩;have av:decide (s.quota-s.used<(bs.length:Int))=qb:=ag.symm;have aw:=AB ag;clear ag;go_upto_region 9 with fail
 go_quiet (fail)
 generalize V:w2.drewN nq=w2d at *;have ah:StR P w2d sb mb N s:=by rw[<-V];exact h2.keep (CO (AC _ _) _)
 have I:Below w.heap.size w w2d:=by rw[<-V];exact CO T _
 have ad:RdP w2d (λk=>k≠sb/\k≠mb) A bs.length c bs:=by rw[<-V];exact ar.low (CO (AC _ _) _)
 have ae:∀k,w2d.heap.size<=k->P k:=λk hk=>aq k (by rw[<-V]at hk;exact hk);clear V h2 T ar aq c0 c1 aH;clear w2;cases qb with
 | true=>
   have HG:=AB (So.put_quota HD.o HP.o HH.o au.o (of_decide_eq_true aw.o.symm));clear av;(go_wp2_with fail);go_ret;rw[HG.o];exact⟨rfl,ah.mono (Nat.le_succ _),.of I⟩
 | false=>
 have O:¬s.quota-s.used<(bs.length:Int):=of_decide_eq_false aw.o.symm;have HG:=AB (So.put_on HD.o HP.o HH.o au.o O);have ax:=AB O;clear av O;go_wp2_with fail
 refine(LT P w2d sb mb N s ah).mono ?_;rintro e w3 ⟨rfl,h3,O3⟩;have ai:=(Ost.of (sb:=sb) (mb:=mb) I).trans O3;have aI:∀k,w3.heap.size<=k->P k:=λk hk=>ae k (AS O3.size hk);obtain⟨⟨s3,er⟩,hr3⟩:∃r,s.change=r:=⟨_,rfl⟩;have ay:s3.m=s.m/\s3.used=s.used/\s3.quota=s.quota:=by have:=So.change_m s;have:=So.change_used s;have:=So.change_quota s;rw[hr3]at *;exact⟨by assumption,by assumption,by assumption⟩
 have aT:=AB hr3;have Z:=AB ay;rw[hr3]at h3 ⊢;have az:ga (s.put nm bs=if er=121 then (s3,er) else (s3.add nm bs,er)):=AB (by rw[HG.o,hr3]);dsimp only at h3 ⊢;have af:=ad.ost O3;clear ad ah I ae hr3 ay;by_cases aa:er=121
 .subst aa;have HF:=AB (az.o.trans (AJ rfl));go_wp2_with fail
  go_ret;rw[HF.o];exact⟨rfl,h3.mono (Nat.le_succ _),ai⟩
 have HF:=AB (az.o.trans (AE aa));have aU:=gM er 121;have aB:(s3.add nm bs).ok:=h3.ok.add (by
  rw[Z.o.1];have:=HH.o;unfold CR at this;cases hq:Ar s.m nm with
  | none=>rfl
  | some t=>rw[hq]at this;cases this) (by rw[Z.o.2.1,Z.o.2.2];have:=ax.o;omega)
 have aJ:=AB aB;have aK:0<=s3.used/\s3.used+(bs.length:Int)<=9223372036854775807:=by
  have a:=Z.o.2.1;have b:=ax.o;have d:=h3.ok.uq;have d2:=h3.ok.q1;have d3:=Z.o.2.2;constructor
  .omega
  omega
 have aV:wrap64 (s3.used+(bs.length:Int))=s3.used+(bs.length:Int):=F7 _ ⟨gd,gd⟩;have aC:=(af.low (AC _ w3).drew).rd;have aj:=h3.drew;have k2:=aj.bx.cell 2 _ rfl;have aL:=AB ai.drew;clear aa aB O3 ai af aK;go_upto_region 13 with fail
 refine wp_region_held_drew (S:=(λw'=>w'.cell? (gX sb 2)=some (.map (some mb)))) gh ?_ (λhHeld=>?_)
 .exact k2
 refine tK 0 ?_;refine tK 1 ?_;refine tK 2 ?_;refine ij 3 (v:=?_) ?_ ?_;rotate_left 1
 ·(intro w' hSw;have q2:w'.cell? (gX sb 2)=some (.map (some mb)):=hSw;go_simp;first|done|with_reducible rfl)
 refine ie ?_;refine tK 4 ?_;refine tK 5 ?_;refine rD 6 λK hK=>?_;go_simp;go_at_call 107;refine(JQ w3.drew w3.drew.heap.size _ c A _ aC (Bb _) gd (AD _)).mono ?_;rintro e w4 ⟨v4,rfl,hown4,hb4⟩;obtain⟨A4,c4,rfl⟩:=BK hown4;have h4:=aj.keep hb4;have k4:=h4.bx.cell 2 _ rfl;have aD:=Vc hown4 (λk hk=>aI k hk);obtain⟨D4,aE⟩:=h4.mp;obtain⟨w5,D5,aQ,ab,ak⟩:=aE.put (lo:=true) (s:=nm) hN hn aD;have aM:({ s3 with m:=Be s3.m nm ⟨bs,true⟩ }:So).m=Be s3.m nm ⟨bs,true⟩:=rfl;have h5:=h4.map2 ak ab;have k5:=h5.1.cell 2 _ rfl;have aN:=AB ((aL.o.trans (.of hb4)).trans (Ost.map ak));have H5:=AB h5;clear h5 h4 hown4 hb4 aE ab ak aD aM;refine hK.out _ _ k4 (λhHeld=>?_);clear hK K;refine ie ?_;refine tK 7 ?_;refine rD 8 λK hK=>?_;go_simp;refine hK.out _ _ k5 (λhHeld=>?_);clear hK K;refine ie ?_;refine wpAnyH_done gh ?_ _;obtain⟨am,ab,aO,aF⟩:=H5.o;have k1:=am.cell 1 _ rfl;have f1:=am.free 1 gj;clear k4 k5 k2 h3 aj aC;go_wp2_with fail
 go_ret;rw[HF.o];exact⟨rfl,Vd am ab aO aF aJ.o,aN.o.trans (.ofOth ((Oth.refl sb _).set 1 _))⟩
theorem Vh (P w sb mb N s)(h:StR P w sb mb N s)(hN:N<=1000000)(nm)(hn:nm.size<=maxLen):
 Calls prog 79 #[iq sb 0,.string nm] w (Jj P w sb mb (N+1) (s.sync nm)):=by
 obtain⟨-,-,c2,-,-,-,c6⟩:=h.bx.c7;obtain⟨D,hD⟩:=h.mp;cases hd:s.dead with
 | true=>
   rw[hd]at c6;have HG:=AB (So.sync_dead hd nm);clear hd hD;go_enter func79,ntmps79;(go_wp2_with fail);go_ret;rw[HG.o];exact⟨rfl,h.mono (Nat.le_succ _),Ost.refl _ _ _⟩
 | false=>
   rw[hd]at c6;cases hg:Ar s.m nm with
   | none=>
     have hk:=(hD.none hg hn).1;have HG:=AB (So.sync_none hd hg);unfold F1 at hk;clear hg hD hd;go_enter func79,ntmps79;(go_wp2_with fail);go_ret;rw[HG.o];have hb:=hI w (.cells #[ir,.bool false] 131);exact⟨rfl,(h.keep hb).mono (Nat.le_succ _),.of hb⟩
   | some t=>
     obtain⟨A,c,hk,_,hr⟩:=hD.some_ hg hn;have HG:=AB (So.sync_on hd hg);have au:=AB hg;obtain⟨y,ab⟩:=gZ w #[.slice A t.bs.length c,.bool t.loose] 131;have af:=Ost.of (sb:=sb) (mb:=mb) ab;have T:=h.nP;have V:=h.nM;have av:sb<w.heap.size:=h.bx.z;have aw:=h.mlt;have h1:=(h.imp (Q:=λk=>P k/\k≠w.heap.size) (λk hk hl=>⟨hk,gd⟩) (λq=>T q.1) (λq=>V q.1)).keep ab;have ad:=(hr.imp (Q:=λk=>P k/\k≠w.heap.size) (λk hk hl=>⟨hk,gd⟩)).low ab;clear hg hD hd hr h;go_enter func79,ntmps79;(go_wp2_with fail);generalize w.alloc _=w1 at *;have ag:ga (w.heap.size<=w.heap.size):=AB (AD _);obtain⟨yb,ah⟩:∃b,b=w.heap.size:=⟨_,rfl⟩;replace ag:ga (w.heap.size<=yb):=AB gd;rw[<-ah]at h1 ad y ⊢;have av:sb<yb:=gd;have aw:mb<yb:=gd;clear ah;have ai:¬(λk=>P k/\k≠yb) yb:=λq=>q.2 rfl;have aj:∀k,(λk=>P k/\k≠yb) k->P k:=λk q=>q.1;have ax:¬(λk=>P k/\k≠yb) sb:=λq=>T q.1;have ay:¬(λk=>P k/\k≠yb) mb:=λq=>V q.1;generalize (λk=>P k/\k≠yb)=Q at *;refine(LT Q w1 sb mb N s h1).mono ?_;rintro e w3 ⟨rfl,h3,O3⟩;obtain⟨⟨s3,er⟩,hr3⟩:∃r,s.change=r:=⟨_,rfl⟩;have ak:s3.m=s.m:=by have:=So.change_m s;rw[hr3]at this;exact this
     rw[hr3]at h3 ⊢;have am:ga (s.sync nm=if er=0 then ({ s3 with m:=Be s3.m nm ⟨t.bs,false⟩ },0) else (s3,er)):=AB (by rw[HG.o,hr3]);have az:Ar s3.m nm=some t:=by rw[ak];exact au.o
     dsimp only at h3 ⊢;have ao:yb≠sb:=gd;have ae:yb≠mb:=gd;have y3:dH w3 yb [.slice A t.bs.length c,.bool t.loose]:=by
      have ap:w3.heap[yb]? = w1.heap[yb]?:=O3.block yb y.z ao ae;exact⟨λj v hj=>(DE (w:=w1) (a:=gX yb j) ap).trans (y.cell j v hj),λj hj=>(EY (w:=w1) (a:=gX yb j) ap).trans (y.free j hj),AV y.z O3.size⟩
     have aa:=ad.ostP O3 ax ay;have OW:=af.trans O3;clear hr3 ak h1 y ad O3 af c2 c6 hk;by_cases h0:er=0
     .subst h0;have HF:=AB (am.o.trans (AJ rfl));have x1:=y3.cell 1 _ rfl;have aB:=y3.free 1 gj;have h4:=h3.else (p:=gX yb 1) ao ae ai (.bool false);have y4:=y3.set (j:=1) (.bool false) rfl;have G:RdP (w3.setCell (gX yb 1) (.bool false)) Q A t.bs.length c t.bs:=aa.keep gj λp hp _=>(CL (p:=gX yb 1) (q:=p) (λr=>ai (by have r2:p.block=yb:=r;rw[<-r2];exact hp)) _).1;have O4:Ost sb mb w (w3.setCell (gX yb 1) (.bool false)):=⟨OW.os,OW.tape,OW.output,by simpa using OW.size,λk hk h1 h2=>(Below.heap_setCell _ _ _ _ (by show k≠yb;have:=ag.o;omega)).trans (OW.block k hk h1 h2)⟩;(go_upto_region 9 with fail);generalize w3.setCell _ _=w4 at *;have I:=h4.drew;have k2:=I.bx.cell 2 _ rfl;have y0:w4.drew.cell? (gX yb 0)=some (.slice A t.bs.length c):=y4.cell 0 _ rfl;have y1:w4.drew.cell? (gX yb 1)=some (.bool false):=y4.cell 1 _ rfl;obtain⟨D4,aq⟩:=I.mp;obtain⟨w5,D5,aC,ar,Z⟩:=aq.put (lo:=false) (s:=nm) hN hn (G.low (AC _ w4).drew);have h5:=I.map Z ar (I.ok.turn az false);have O:w5.heap[yb]? = w4.drew.heap[yb]?:=Z.block yb y4.z (by intro q;injection q with q;exact ae q);have z0:=(DE (w:=w4.drew) (a:=gX yb 0) O).trans y0;have z1:=(DE (w:=w4.drew) (a:=gX yb 1) O).trans y1;have j2:=h5.bx.cell 2 _ rfl;have H5:=AB h5;have O5:=AB (O4.drew.trans (Ost.map Z));clear h5 ar Z O aq I h4 y4 y3 aa G O4 OW h3 x1 aB;refine wp_region_held_drew (S:=λw'=>w'.cell? (gX sb 2)=some (.map (some mb))/\w'.cell? (gX yb 0)=some (.slice A t.bs.length c)/\w'.cell? (gX yb 1)=some (.bool false)) gh ?_ (λhHeld=>?_)
      .exact⟨k2,y0,y1⟩
      refine tK 0 ?_;refine tK 1 ?_;refine tK 2 ?_;refine tK 3 ?_;refine tK 4 ?_;refine tK 5 ?_;refine rD 6 λK hK=>?_;go_simp;refine hK.out _ _ ⟨j2,z0,z1⟩ (λhHeld=>?_);clear hK K;refine ie ?_;refine wpAnyH_done gh ?_ _;(go_wp2_with fail);go_ret;rw[HF.o];exact⟨rfl,H5.o.imp (λk hk _=>aj k hk) T V,O5.o⟩
     have HF:=AB (am.o.trans (AE h0));have aD:=gL er 0;clear h0;(go_wp2_with fail);go_ret;rw[HF.o];exact⟨rfl,(h3.imp (λk hk _=>aj k hk) T V).mono (Nat.le_succ _),OW⟩
theorem PY (P w sb mb N s)(h:StR P w sb mb N s)(o nw):
 Calls prog 86 #[iq sb 0,.string o,.string nw] w (Jj P w sb mb N (s.swap o nw)):=by
 have c6:=h.bx.cell 6 _ rfl;have c3:=h.bx.cell 3 _ rfl;cases hd:s.dead with
 | true=>
   rw[hd]at c6;have HG:=AB (So.swap_dead hd o nw);clear hd;go_enter func86,ntmps86;(go_wp2_with fail);go_ret;rw[HG.o];exact⟨rfl,h,Ost.refl _ _ _⟩
 | false=>
   rw[hd]at c6;have HD:=AB hd;clear hd;cases G:(s.cell.toList==o.toList)with
   | false=>
     have HG:=AB (So.swap_other HD.o nw G);go_enter func86,ntmps86;(go_wp2_with fail);go_ret;rw[HG.o];exact⟨rfl,h,Ost.refl _ _ _⟩
   | true=>
     have HC:=AB G;go_enter func86,ntmps86;(go_wp2_with fail);refine(PV w nw).mono ?_;rintro e w1 ⟨rfl,hb1⟩;have h1:=h.keep hb1;clear c6 c3 h G;cases hp:Aq nw with
     | false=>
       have HG:=AB (So.swap_name HD.o HC.o hp);clear hp;(go_wp2_with fail);go_ret;rw[HG.o];exact⟨rfl,h1,.of hb1⟩
     | true=>
       have HG:=AB (So.swap_on HD.o HC.o hp);clear hp;(go_wp2_with fail);refine(LT P w1 sb mb N s h1).mono ?_;rintro e w3 ⟨rfl,h3,O3⟩;obtain⟨⟨s3,er⟩,hr3⟩:∃r,s.change=r:=⟨_,rfl⟩;rw[hr3]at h3 ⊢;have I:ga (s.swap o nw=if er=0 then ({ s3 with cell:=nw },0) else (s3,er)):=AB (by rw[HG.o,hr3]);have OW:=(Ost.of (sb:=sb) (mb:=mb) hb1).trans O3;dsimp only at h3 ⊢;clear hr3 h1 hb1 O3;by_cases h0:er=0
       .subst h0;have HF:=AB (I.o.trans (AJ rfl));have:=h3.bx.cell 3 _ rfl;have:=h3.bx.free 3 gj;(go_wp2_with fail);go_ret;rw[HF.o];obtain⟨a,b,c,d,e,f,g,i,j⟩:=h3.ok;exact⟨rfl,h3.box ((Oth.refl sb w3).set 3 _) rfl ⟨a,b,c,d,e,f,g,i,j⟩ (h3.bx.set (j:=3) (.string nw) rfl),OW.trans (.ofOth ((Oth.refl sb w3).set 3 _))⟩
       have HF:=AB (I.o.trans (AE h0));have:=gL er 0;clear h0;(go_wp2_with fail);go_ret;rw[HF.o];exact⟨rfl,h3,OW⟩
theorem gC (P w sb mb N s)(h:StR P w sb mb N s)(hN:N<=1000000):
 Calls prog 19 #[iq sb 0] w (Vk w (PZ s.m)):=by
 have c2:=h.bx.cell 2 _ rfl;obtain⟨D,hD⟩:=h.mp;have aF:=hD.own.size_le;have V:=hD.keys h.ok.di;have aG:=h.ok.di;go_enter func19,ntmps19;go_wp2_with fail
 refine(callsIn_wide.1 (PI (some mb) w)).mono ?_;rintro e w1 ⟨rfl,rfl⟩;have ai:=hI w (.cells #[.map (some mb)] 104);go_wp2_with fail
 refine(callsIn_wide.1 (PJ mb N D elR w hD.own gn gd)).mono ?_;rintro e w2 ⟨v2,ss,rfl,hss,hown2,_,hb2⟩;have G:ss.mergeSort leB=(GH s.m).mergeSort leB:=mergeSort_of_perm (hss.trans V.symm);have Z:ss.length=(Bl s.m).length:=by unfold Bl;rw[Ae,<-G,List.length_mergeSort]
 have af:(ss.mergeSort λx y=>decide (x<=y)).map Go.Proofs.encStr=AY (Bl s.m):=by
  show(ss.mergeSort leB).map Go.Proofs.encStr=_;rw[G];unfold AY Bl;rw[List.map_map];rfl
 rw[af,Z]at hown2;obtain⟨A2,aM,rfl⟩:=BK hown2;have ab:=Ay hown2;have aj:=AM ai ai.size hb2;have ak:=gR hD aG;obtain⟨ns,ad⟩:=ia (Bl s.m);rw[ad]at ab ⊢;have HN:=AB ad;have:ns.length<=9223372036854775807:=by have h1:=ab.le;have h2:=ab.cap;unfold maxLen at h2;omega
 have:ns.length<=1000000:=by
  have h1:ns.length=ss.length:=by rw[Z,ad]
  have h2:=hss.length_eq;have:(strKeys D).length=Maps.size D:=by
   obtain⟨es,rfl,_⟩:=hD.own.tidy FI;simp[strKeys,Maps.size]
  omega
 clear hown2 af Z G hss ai hb2 V hD aF c2 ad;go_wp2_with fail
 go_loopw [3,13] (λv3 iv wr=>∃(k:Nat) (oA:Option Addr) (oc:Nat) (out:List ByteArray),v3 = .slice oA out.length oc/\iv = io k/\k<=ns.length/\ga (out=(ns.take k).filter (IZ s.m))/\out.length<=k/\wr.ownsRow w2.heap.size 9 1 (.slice oA out.length oc) out.length (AY out)/\Below w2.heap.size w2 wr) (λ_ iv _=>ns.length-(intOf iv).toNat);case atStart=>exact⟨0,none,0,[],rfl,rfl,AU _,AB gj,AD _,Av _ _ _ _,AC _ _⟩
 case round=>
  obtain⟨k,oA,oc,out,rfl,rfl,hk,ag,aO,O,T⟩:=hrel;have am:=aj.trans (T.mono aj.size);by_cases ao:k<ns.length
  .have hr:=ab.below T;obtain⟨b,off,rfl,hb,hc⟩:=hr.at_ gd;obtain⟨nm,av⟩:=ia (ns.getD k ByteArray.empty);have ae:ns[k]? = some nm:=by rw[<-av,BW,BF ao];rfl
   have ap:=hc k (.string nm) (by unfold AY;rw[DY,ae];rfl);have aa:nm∈Bl s.m:=by rw[HN.o];exact List.mem_of_getElem? ae
   obtain⟨t,ht⟩:=LU aa;have aw:=ak.o.1.size aa ak.o.2;have ah:=ak.o.1.keep (w':=wr) am;obtain⟨A,c,_,aH,_⟩:=ah.some_ ht aw;have aI:=Vi A t.bs.length c t.loose;have k2:=(h.keep am).bx.cell 2 _ rfl;have ax:ns.take (k+1)=ns.take k++[nm]:=by rw[Cn,ae];rfl
   have aq:ga ((ns.take (k+1)).filter (IZ s.m)=out++(if t.loose=true then [nm] else [])):=AB (by
    rw[ax,List.filter_append,<-ag.o];have e:IZ s.m nm=t.loose:=by unfold IZ;rw[ht]
    rw[List.filter_cons,e];cases t.loose<;>simp)
   obtain⟨lo,ay⟩:=ia t.loose;rw[ay]at aI aH aq;clear av ae hc aa ht ah ax ay;cases lo with
   | false=>
     (go_wp2_with fail);go_roundw;case rel=>exact⟨k+1,oA,oc,out,rfl,by go_num,ao,AB (by rw[aq.o];simp),gd,O,T⟩
     case measure=>simp[intOf];omega
   | true=>
     have az:=hI wr (.cells #[.string nm] 9);have ar:=Ag O az;have aB:Rd (wr.alloc (.cells #[.string nm] 9)) (wr.heap.size+1) 1 (gY wr.heap.size 0) 1 1 (AY [nm]):=Rd.lit (n:=1) (sz:=1) wr 9 #[.string nm] rfl gn;have aC:w2.heap.size<=(wr.alloc (.cells #[.string nm] 9)).heap.size:=AS T.size az.size;have HB:=AB ((AC w2.heap.size wr).alloc T.size (.cells #[.string nm] 9));go_wp2_with (at_builtin;refine Aw _ Ez rfl (.tmp 24) (.tmp 26) rfl w2.heap.size _ out.length (AY out) rfl ar (wr.heap.size+1) _ 1 1 _ rfl aB (Hb [nm]) gd aC ?_;intro v8 w8 I aD _)
     have aJ:=Au HB.o (AD _) ar aD aC;have e1:(out++[nm]).length=out.length+1:=gj;have e2:AY (out++[nm])=AY out++AY [nm]:=by simp[AY]
     obtain⟨g,cap,rfl,_,_⟩:=I.form gd;have au:w8.ownsRow w2.heap.size 9 1 (.slice (gY g 0) (out++[nm]).length cap) (out++[nm]).length (AY (out++[nm])):=by rw[e1,e2];exact I
     have aE:=T.trans aJ;rw[<-e1];clear I aD ar aB k2 ap;(go_wp2_with fail);go_roundw;case rel=>exact⟨k+1,some ⟨g,0,none⟩,cap,out++[nm],rfl,by go_num,ao,AB (by rw[aq.o];simp),by rw[e1];omega,au,aE⟩
     case measure=>simp[intOf];omega
  have HO:ga (out=PZ s.m):=AB (by rw[ag.o,CF gd,<-HN.o];rfl);have aK:=Ay O;go_wp2_with fail
  go_ret;refine⟨am,oA,oc,by rw[<-HO.o];rfl,by rw[<-HO.o];exact aK,λb hb=>by rw[<-HO.o];exact row_ne_low O (AV hb aj.size)⟩
theorem Ph (w id n c A l)(hr:Rd w w.heap.size 4 A n c (AZ l))(name)(k:Nat)(hk:k<256):
 Calls prog 91 #[.agg (dR id A n c),.string name,ip k] w (FH w id l name k):=by
 obtain rfl:=hr.lenF;have:id.toNat<4294967296:=id.toNat_lt;go_enter func91,ntmps91;go_wp2_with fail
 have x1:=Dc w (dR id A l.length c) 33;generalize bP:w.alloc _=wa at *;have x2:=Dc wa #[.string name] 9;generalize bQ:wa.alloc _=wb at *;have x3:=Dc wb B3 33;generalize bR:wb.alloc _=w2 at *;have za:=x1.size;have zb:=x2.size;obtain⟨cs,_,zs,aw⟩:=x1.lift (AM x2.below x2.below.size x3.below);obtain⟨cn,_,zn,_⟩:=x2.lift x3.below;obtain⟨cr,fr,zr,_⟩:=x3.lift (AC _ _);have s0:=cs 0 _ rfl;have s1:=cs 1 _ rfl;have n0:=cn 0 _ rfl;have r0:=cr 0 _ rfl;have r1:=cr 1 _ rfl;have aX:=fr 0;have aY:=fr 1;have aI:=(hr.below aw).more aw.size;rw[show w.heap.size+1+1=wb.heap.size by omega,show w.heap.size+1=wa.heap.size by omega];have ab:w.heap.size<=wb.heap.size:=gd;generalize aZ:w.heap.size=bs at *;generalize a0:wa.heap.size=bn at *;generalize a1:wb.heap.size=br at *;have HZ:=gS aZ a0 a1;clear bP bQ bR cs cn cr fr x1 x2 x3 za zb aZ a0 a1;refine(Fr w2 id _ c A l aI).mono ?_;rintro e w3 ⟨rfl,hb3⟩;have ad:Below bs w w3:=AM aw (Ad zs) hb3;have a2:=(hb3.cell (p:=gX bs 0) zs).trans s0;have a3:=(hb3.cell (p:=gX bs 1) zs).trans s1;have a4:=(hb3.cell (p:=gX bn 0) zn).trans n0;have a5:=(hb3.cell (p:=gX br 0) zr).trans r0;have a6:=(hb3.cell (p:=gX br 1) zr).trans r1;have aF:=(hb3.frozen (p:=gX br 0) zr).trans aX;have aG:=(hb3.frozen (p:=gX br 1) zr).trans aY;have aJ:=(aI.below hb3).more hb3.size;have ak:bs<w3.heap.size:=AV zs hb3.size;have aK:bn<w3.heap.size:=AV zn hb3.size;have I:br<w3.heap.size:=AV zr hb3.size;clear s0 s1 n0 r0 r1 aX aY aI zs zn zr hb3 aw;have a7:=Pc id l;have a8:w3.cell? (gX bs 0)=some (im id.toNat):=a2;have a9:w3.cell? (gX bs 1)=some (.slice A l.length c):=a3;have ba:w3.cell? (gX bn 0)=some (.string name):=a4;have Z:w3.cell? (gX br 0)=some (im 0):=a5;have aa:w3.cell? (gX br 1)=some ir:=a6;have be:=aF;have bg:=aG;clear a2 a3 a4 a5 a6 aF aG;by_cases ax:check id l=0
 .obtain⟨cf,ch,ci⟩:=Ef ax;have t1:((check id l:Int) != 0)=false:=by rw[ax];rfl
  have ae:=AB ax;obtain⟨m,hm⟩:=ib (l.length-1);have bS:m<l.length:=gd;have:((l.length:Int)-1)=(m:Int):=gd;obtain⟨b,off,rfl,hb,f0,f1,f2,f3⟩:=aJ.fd bS;obtain⟨f,aL⟩:=ib (l.getD m default);rw[<-aL]at f0 f1 f2 f3;have am:ED l=f.id.toNat:=by unfold ED;rw[<-hm,<-aL]
  have aM:f.id.toNat<4294967296:=f.id.toNat_lt;clear hm aL a7;generalize check id l=ck at t1;obtain⟨O,bh⟩:=ib f.id.toNat;rw[<-bh]at f0 am aM;have ay:=AB am;clear am bh;have bi:=ad.size;have bj:bs<=w3.heap.size:=Ad ak;by_cases g8:l.length=8
  .have y1:=gI 8 l.length;obtain⟨q1,q2,q3⟩:=Hv (name:=name) (k:=k) ae.o (by left;exact g8);have HG:=AB g8;clear g8;have HQ:=gS q1 q2 q3;clear q1 q2 q3;(go_wp2_with fail);(try simp only[Exit.inBlock,Exit.then]);refine AW (D9 (b:=br) (x:=im 0) (y:=ir) rfl _ _ rfl (Hw w3 br _ _ _ _ I Z aa _).1 (Hw w3 br _ _ _ _ I Z aa _).2) rfl ?_;exact FH.bad HQ.o.1 HQ.o.2.1 HQ.o.2.2 (by rw[HZ.o.1];first|exact(Cf ad br ab _ _).alloc gt _)
  have y1:=gJ 8 l.length;by_cases gl:O=4294967295
  .have y2:=gK O 4294967295;obtain⟨q1,q2,q3⟩:=Hv (name:=name) (k:=k) ae.o (by right;left;rw[ay.o];exact gl);have HQ:=gS q1 q2 q3;clear q1 q2 q3;have HG:=AB gl;clear gl;(go_wp2_with fail);(try simp only[Exit.inBlock,Exit.then]);refine AW (D9 (b:=br) (x:=im 0) (y:=ir) rfl _ _ rfl (Hw w3 br _ _ _ _ I Z aa _).1 (Hw w3 br _ _ _ _ I Z aa _).2) rfl ?_;exact FH.bad HQ.o.1 HQ.o.2.1 HQ.o.2.2 (by rw[HZ.o.1];first|exact(Cf ad br ab _ _).alloc gt _)
  have y2:=gL O 4294967295;by_cases gi:id.toNat=4294967295
  .have y3:=gK id.toNat 4294967295;obtain⟨q1,q2,q3⟩:=Hv (name:=name) (k:=k) ae.o (by right;right;exact gi);have HQ:=gS q1 q2 q3;clear q1 q2 q3;have HG:=AB gi;clear gi gl;(go_wp2_with fail);(try simp only[Exit.inBlock,Exit.then]);refine AW (D9 (b:=br) (x:=im 0) (y:=ir) rfl _ _ rfl (Hw w3 br _ _ _ _ I Z aa _).1 (Hw w3 br _ _ _ _ I Z aa _).2) rfl ?_;exact FH.bad HQ.o.1 HQ.o.2.1 HQ.o.2.2 (by rw[HZ.o.1];first|exact(Cf ad br ab _ _).alloc gt _)
  have y3:=gL id.toNat 4294967295;have h4:ga (¬(l.length=8\/ED l=4294967295\/id.toNat=4294967295)):=AB (by rw[ay.o];omega);have aN:O+1<4294967296:=gd;have bk:id.toNat+1<4294967296:=gd;clear g8 gl gi;go_wp2_with fail
  obtain⟨w4,bm⟩:=ib (w3.alloc (.cells #[im O,.string f.name,ip f.kind.toNat,.bool f.need] 89));have xb:=Dc w3 #[im O,.string f.name,ip f.kind.toNat,.bool f.need] 89;rw[<-bm]at xb ⊢;have l4:=xb.cell 0 _ rfl;have az:w3.heap.size<w4.heap.size:=by have:=xb.size;omega
  have G:=xb.below;have bo:=(G.cell (p:=gX bs 0) ak).trans a8;have bp:=(G.cell (p:=gX bs 1) ak).trans a9;have bq:=(G.cell (p:=gX bn 0) aK).trans ba;have bu:=(G.cell (p:=gX br 0) I).trans Z;have bv:=(G.cell (p:=gX br 1) I).trans aa;have bw:=(G.frozen (p:=gX br 0) I).trans be;have bB:=(G.frozen (p:=gX br 1) I).trans bg;have ao:=AV ak G.size;have aO:=AV aK G.size;have ag:=AV I G.size;have bC:Below bs w w4:=AM ad bj G;have bD:=(aJ.below G).more G.size;obtain⟨bl,bE⟩:=ib w3.heap.size;rw[<-bE]at l4 az ⊢;clear bm xb bE G a8 a9 ba Z aa be bg ak aK I aJ f0 f1 f2 f3 ad bi bj hb;refine(Mw w4 name).mono ?_;rintro e w5 ⟨rfl,hb5⟩;have bF:=(hb5.cell (p:=gX bs 0) ao).trans bo;have bG:=(hb5.cell (p:=gX bs 1) ao).trans bp;have aP:=(hb5.cell (p:=gX bn 0) aO).trans bq;have aB:=(hb5.cell (p:=gX br 0) ag).trans bu;have aC:=(hb5.cell (p:=gX br 1) ag).trans bv;have bH:=(hb5.frozen (p:=gX br 0) ag).trans bw;have bI:=(hb5.frozen (p:=gX br 1) ag).trans bB;have ap:=AV ao hb5.size;have aD:=AV aO hb5.size;have ah:=AV ag hb5.size;have l5:=(hb5.cell (p:=gX bl 0) az).trans l4;have aQ:=AV az hb5.size;have aR:Below bs w w5:=AM bC (Ad ao) hb5;have aS:=(bD.below hb5).more hb5.size;clear bo bp bq bu bv bw bB ao aO ag l4 az bC bD hb5;obtain⟨hv,T⟩:=ib (CW l name);have af:Calls prog 81 #[.slice (gY b off) l.length c,.func (.func 157) #[] #[iq bn 0]] w5 λe w'=>e = .returned (.bool hv)/\Below w5.heap.size w5 w':=by
   rw[T];exact NJ w5 _ l.length c _ l aS (AD _) gd 157 #[iq bn 0] _ Vx (Vw w5 bn name aD aP)
  have bJ:=AB T;clear T;cases aE:named name with
  | false=>
    obtain⟨q1,q2,q3⟩:=Jl (name:=name) (k:=k) ae.o h4.o (by rw[aE];rfl);have HQ:=gS q1 q2 q3;clear q1 q2 q3 af;(go_wp2_with fail);(try simp only[Exit.inBlock,Exit.then]);refine AW (D9 (b:=br) (x:=im 0) (y:=ir) rfl _ _ rfl (BZ w5 br _ _ _ _ aB aC).1 (BZ w5 br _ _ _ _ aB aC).2) rfl ?_;exact FH.bad HQ.o.1 HQ.o.2.1 HQ.o.2.2 (by rw[HZ.o.1];exact Cf aR br ab _ _)
  | true=>
    (go_wp2_with fail);refine af.mono ?_;rintro e w8 ⟨rfl,hb8⟩;have bT:=(hb8.cell (p:=gX bs 0) ap).trans bF;have bU:=(hb8.cell (p:=gX bs 1) ap).trans bG;have bV:=(hb8.cell (p:=gX bn 0) aD).trans aP;have aq:=(hb8.cell (p:=gX br 0) ah).trans aB;have ar:=(hb8.cell (p:=gX br 1) ah).trans aC;have bW:=(hb8.frozen (p:=gX br 0) ah).trans bH;have bX:=(hb8.frozen (p:=gX br 1) ah).trans bI;have aT:=AV ap hb8.size;have bY:=AV aD hb8.size;have ai:=AV ah hb8.size;have l8:=(hb8.cell (p:=gX bl 0) aQ).trans l5;have bZ:=AV aQ hb8.size;have aU:Below bs w w8:=AM aR (Ad ap) hb8;have b0:=(aS.below hb8).more hb8.size;clear af bF bG aP aB aC bH bI ap aD ah l5 aQ aR aS hb8;have T:=bJ.o.symm;cases hv with
    | true=>
      obtain⟨q1,q2,q3⟩:=Jl (name:=name) (k:=k) ae.o h4.o (by rw[aE,T];rfl);have HQ:=gS q1 q2 q3;clear q1 q2 q3;(go_wp2_with fail);(try simp only[Exit.inBlock,Exit.then]);refine AW (D9 (b:=br) (x:=im 0) (y:=ir) rfl _ _ rfl (BZ w8 br _ _ _ _ aq ar).1 (BZ w8 br _ _ _ _ aq ar).2) rfl ?_;exact FH.bad HQ.o.1 HQ.o.2.1 HQ.o.2.2 (by rw[HZ.o.1];exact Cf aU br ab _ _)
    | false=>
      have bK:ga ((!named name||CW l name)=false):=AB (by rw[aE,T];rfl);clear aE T;(go_wp2_with fail);refine(NK w8 k hk).mono ?_;rintro e w9 ⟨rfl,rfl⟩;by_cases g1:k<1\/3<k
      .rw[AG (show ¬(1<=k/\k<=3)by omega)];obtain⟨q1,q2,q3⟩:=Pe (name:=name) (k:=k) ae.o h4.o bK.o g1;have HQ:=gS q1 q2 q3;clear q1 q2 q3 g1;(go_wp2_with fail);(try simp only[Exit.inBlock,Exit.then]);refine AW (D9 (b:=br) (x:=im 0) (y:=ir) rfl _ _ rfl (BZ w8 br _ _ _ _ aq ar).1 (BZ w8 br _ _ _ _ aq ar).2) rfl ?_;exact FH.bad HQ.o.1 HQ.o.2.1 HQ.o.2.2 (by rw[HZ.o.1];exact Cf aU br ab _ _)
      rw[AF (show 1<=k/\k<=3 by omega)];obtain⟨q1,q2,q3⟩:=Pf (name:=name) (k:=k) ae.o h4.o bK.o g1;have HQ:=gS q1 q2 q3;clear q1 q2 q3 g1;have aV:IntKind.u32.wrap ((O:Int)+1)=((O+1:Nat):Int):=by rw[IntKind.wrap_u32];omega
      have b1:(#[im ((O+1:Nat):Int),.string name,ip k,.bool false]:Array Value).toList=fdV (DH l name k):=by rw[Pg l name k (by rw[ay.o];exact aN) hk,ay.o]
      have:((id.toNat:Int)+1) % 4294967296=((id.toNat+1:Nat):Int):=gd;(go_wp2_with fail);refine II 10 BC gh gh ?_;simp only[Bv,Bw,EL,List.take_zero,List.drop_succ_cons,List.drop_zero];iterate 2 (refine zV ?_ rfl ?_ ?_;rotate_left 1;(·intro w' V C hC;have q:=(V.cell (p:=gX bs 1) aT).trans bU;go_simp;(try go_bits);exact hC);simp only[AX,AI,AH])
      refine C5 (.has (J9 w8.heap.size (AZ l))) (λ_ _ h=>by cases h) rfl rfl (NL _ _) (λw' V=>?_) ?_
      .go_simp;exact⟨AC _ _,(Ha w' w8.heap.size l.length c (gY b off) _ (b0.keep λp hp=>V.cell hp) (Ee l) gd V.size).mono λe cp h=>NM h V.size⟩
      simp only[AX,AI,AH];iterate 2 (refine zV ?_ rfl ?_ ?_;rotate_left 1;(·intro w' V C hC;have q:=(V.cell (p:=gX bl 0) bZ).trans l8;go_simp;(try go_bits);exact hC);simp only[AX,AI,AH])
      refine Cr BC ?_ (λ_ _ h=>by cases h) rfl rfl ?_ ?_;rotate_left 1
      .intro w' V C hC;have q:=aV;go_simp;try go_bits
       exact hC
      simp only[AX,AI,AH];iterate 3 (refine zV ?_ rfl ?_ ?_;rotate_left 1;(·intro w' V C hC;have q:=(V.cell (p:=gX bn 0) bY).trans bV;go_simp;(try go_bits);exact hC);simp only[AX,AI,AH])
      refine C5 (.has (LV (fdV (DH l name k)))) (λ_ _ h=>by cases h) rfl rfl (Vy _) (λw' V=>?_) ?_
      .go_simp;exact⟨(AC _ _).alloc (AD _) _,Vz w' _ b1 rfl⟩
      simp only[AX,AI,AH];intro wA b2;simp only[C6];intro vo b5 vl b7;obtain⟨no,eo,ho⟩:=b5;obtain⟨Al,rfl,hl⟩:=b7;obtain rfl:no=l.length:=by rw[Iy]at eo;omega
      have aW:Below w8.heap.size w8 wA:=BY b2;have bL:∀u∈fdV (DH l name k),u.oneCell'=true:=λu hu=>Ee [DH l name k] u (by simpa [AZ]using hu);go_wp2_with (at_builtin;refine Aw _ Ex rfl (.tmp 59) (.tmp 66) rfl w8.heap.size _ _ _ rfl ho wA.heap.size Al _ 1 _ rfl hl bL gd aW.size ?_;intro v2 wB aH hg _;have aj:=Au aW (AD _) ho hg aW.size;have:=(aj.cell (p:=gX bs 0) aT).trans bT;have bM:=(aj.cell (p:=gX br 0) ai).trans aq;have bN:=(aj.cell (p:=gX br 1) ai).trans ar;have:=(aj.frozen (p:=gX br 0) ai).trans bW;have:=(aj.frozen (p:=gX br 1) ai).trans bX;clear ho hg hl;obtain⟨gv,au,rfl,_,_⟩:=aH.form (Nat.succ_pos _))
      (try simp only[Exit.inBlock,Exit.then]);refine AW (D9 (b:=br) (x:=im ((id.toNat+1:Nat):Int)) (y:=.slice (gY gv 0) (l.length+1) au) rfl _ _ rfl (BZ wB br _ _ _ _ bM bN).1 (BZ wB br _ _ _ _ bM bN).2) rfl ?_;have av:=B6 (B6 aH (a:=gX br 0) ai (im ((id.toNat+1:Nat):Int))) (a:=gX br 1) ai (.slice (gY gv 0) (l.length+1) au);have bO:AZ l++fdV (DH l name k)=AZ (l++[DH l name k]):=by rw[KR];simp[AZ]
      rw[bO]at av;obtain⟨Ao,co,b8,cc⟩:=Rd.of_own av;injection b8 with q1 q2 q3;subst q1 q3;refine⟨_,by rw[HQ.o.1];rfl,?_,by rw[HZ.o.1];exact Cf (AM aU (Ad aT) aj) br ab _ _⟩;rw[HQ.o.2.1,HQ.o.2.2];refine⟨some ⟨gv,0,none⟩,au,?_,?_⟩
      .unfold dR;rw[ID bk,AR];rfl
      rw[AR];exact cc
 obtain⟨q1,q2,q3⟩:=Pd (name:=name) (k:=k) ax;have HQ:=gS q1 q2 q3;clear q1 q2 q3;have t1:=gM (check id l) 0;generalize check id l=ck at *;go_wp2_with fail
 (try simp only[Exit.inBlock,Exit.then]);refine AW (D9 (b:=br) (x:=im 0) (y:=ir) rfl _ _ rfl (BZ w3 br _ _ _ _ Z aa).1 (BZ w3 br _ _ _ _ Z aa).2) rfl ?_;exact FH.bad HQ.o.1 HQ.o.2.1 HQ.o.2.2 (by rw[HZ.o.1];exact Cf ad br ab _ _)
theorem Pi (w sA sc ss nA nc ns cur)(hT:TabR w w.heap.size sA sc ss nA nc ns)(h1:ss.length<=1000000)(h2:∀s∈ss,s.fs.length<=1000000)(h3:ns.length<=1000000)(h4:∀s∈ns,s.p.ms.length<=1000000)(ids iA ic)(hri:Rd w w.heap.size 1 iA ids.length ic (CY ids))(hi:ids.length<=1000000):
 Calls prog 39 #[.agg (dP sA ss.length sc nA ns.length nc cur.toNat),.slice iA ids.length ic] w (Ib w (ss.map dK) (ns.map dL) cur ids):=by
 unfold Ib;by_cases h:Df (ns.map dL) cur ids=0
 .rw[AJ h];exact UH w sA sc ss nA nc ns cur hT h1 h2 h3 h4 ids iA ic hri hi h
 rw[AE h];exact UC w sA sc ss nA nc ns cur hT h3 h4 ids iA ic hri hi h
