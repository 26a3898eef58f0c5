/- For CatalogEntries. -/
import Derived.Test.YtpfofefecamkfaaGreatDoorZ1
import Derived.Test.YtpfofefecamkfaaGreatDoorZ7
namespace Go.Proofs.YtpfofefecamkfaaGreatDoor
open Go.RowKit Proofs.Tryz
set_option maxRecDepth 100000
set_option maxHeartbeats 16000000
set_option linter.all false
theorem Ko (w sA sc ss nA nc ns)(cur:Nat)(hT:TabR w w.heap.size sA sc ss nA nc ns):
 Calls prog 106 #[.agg #[.slice sA ss.length sc,.slice nA ns.length nc,il cur]] w λe w'=>e = .returned (.bool (B7 (ss.map dK) (ns.map dL) cur))/\Below w.heap.size w w':=by
 obtain⟨R,hR⟩:=ib (B7 (ss.map dK) (ns.map dL) cur);rw[<-hR];have HR:=AB hR;clear hR;have bn:ss.length<=9223372036854775807:=by have h1:=hT.srow.le;have h2:=hT.srow.cap;unfold maxLen at h2;omega
 have bo:ns.length<=9223372036854775807:=by have h1:=hT.nrow.le;have h2:=hT.nrow.cap;unfold maxLen at h2;omega
 by_cases g:ss.length<1
 .have HF:ga (R=false):=AB (by rw[HR.o];exact Hh (by simp only[Ae];omega));have y1:=gG ss.length 1;clear g;go_enter func106,ntmps106;go_wp2_with fail
  go_ret;exact⟨by rw[HF.o];rfl,(AC _ _).alloc (AD _) _⟩
 have y1:=gH ss.length 1;have H1:=AB g;clear g;by_cases g:16<ss.length
 .have HF:ga (R=false):=AB (by rw[HR.o];exact Hh (by simp only[Ae];omega));have y2:=gG 16 ss.length;clear g;go_enter func106,ntmps106;go_wp2_with fail
  go_ret;exact⟨by rw[HF.o];rfl,(AC _ _).alloc (AD _) _⟩
 have y2:=gH 16 ss.length;have H2:=AB g;clear g;by_cases g:32<ns.length
 .have HF:ga (R=false):=AB (by rw[HR.o];exact Hh (by simp only[Ae];omega));have y3:=gG 32 ns.length;clear g;go_enter func106,ntmps106;go_wp2_with fail
  go_ret;exact⟨by rw[HF.o];rfl,(AC _ _).alloc (AD _) _⟩
 have y3:=gH 32 ns.length;have H3:=AB g;clear g;have HL:ga (1<=ss.length/\ss.length<=16/\ns.length<=32):=AB (by have:=H1.o;have:=H2.o;have:=H3.o;omega);clear H1 H2 H3;go_enter func106,ntmps106;go_wp2_with fail
 obtain⟨x1,aS⟩:=gZ w #[.slice sA ss.length sc,.slice nA ns.length nc,il cur] 39;have a3:(w.alloc (.cells #[.slice sA ss.length sc,.slice nA ns.length nc,il cur] 39)).heap.size=w.heap.size+1:=gj;generalize w.alloc _=w1 at *;obtain⟨x2,aT⟩:=gZ w1 #[im 0,ir] 33;have a4:=x1.keep aT x1.z;have aw:=AM aS aS.size aT;generalize w1.alloc _=w2 at *;have aU:=hT.below aw;rw[<-a3];have ad:w.heap.size<w1.heap.size:=gd;have bF:w1.heap.size<w2.heap.size:=x2.z;generalize aO:w.heap.size=b1 at *;generalize w1.heap.size=b3 at *;have am:=AB aO;clear a3 aS aT x1 hT aO;obtain⟨c0,c1,c2⟩:=a4.c3;clear y1 y2 y3;go_loopw [30] (λiv wr=>∃(k:Nat) (wid:UInt32) (wA:Option Addr) (wc:Nat) (I:List Fd),iv = io k/\k<=ss.length/\dH wr b3 [im wid.toNat,.slice wA I.length wc]/\Rd wr b1 4 wA I.length wc (AZ I)/\ga (FX (ss.map dK) k=(wid,I))/\ga (∀j,j<k->sOk (ss.map dK) j=true)/\Below b3 w2 wr) (λiv _=>ss.length-(intOf iv).toNat);case atStart=>exact⟨0,0,none,0,[],rfl,AU _,x2,Rd.nil _ _ _,AB rfl,AB (λj h=>gd),AC _ _⟩
 case round=>
  obtain⟨k,wid,wA,wc,I,rfl,hk,X,aV,ao,ai,O⟩:=hrel;by_cases ap:k<ss.length
  .have ae:=aU.below (O.mono (Ad ad));obtain⟨b,off,rfl,hb,f0,f1⟩:=ae.srow.sl ap;have ay:=ae.s_at ap;have ar:=Gc ss k;generalize hf:ss.getD k default=f at *;have a5:=Kn ar ao.o;have az:=AB a5;have aW:=AB ar;have aB:k<(ss.map dK).length:=by rw[Ae];exact ap
   have aq:=AB aB;clear hf ae ar a5 aB;have aP:=O.size;obtain⟨y,V⟩:=gZ wr #[im f.id.toNat,.slice f.A f.fs.length f.c] 33;have X5:=X.keep V X.z;have bp:b3<wr.heap.size:=X.z;have af:=ay.below' V (show b1<=wr.heap.size by omega);have aC:=aV.below' V (show b1<=wr.heap.size by omega);have aD:Below b3 w2 _:=AM O (Ad bp) V;(go_wp2_with fail);generalize wr.alloc _=w5 at *;generalize wr.heap.size=b5 at *;obtain⟨u0,u1⟩:=y.c2;obtain⟨v0,v1⟩:=X5.c2;have Z:b1<=w5.heap.size:=by have:=y.z;omega
   have aa:=af.more Z;have zy:b5<w5.heap.size:=y.z;have zx:b3<w5.heap.size:=X5.z;have ak:=gR X5 y;have aE:=AB aD;clear f0 f1 ay aV X V O y X5 aD;by_cases g:check f.id f.fs≠0
   .have HF:ga (R=false):=AB (by rw[HR.o];exact Fw aq.o (by rw[az.o];show(decide (check f.id f.fs=0)&&_)=false;rw[AG g];rfl));obtain⟨ck,aX⟩:=ia (check f.id f.fs);have aj:ga ((check f.id f.fs:Int)=(ck:Int)):=AB (by rw[aX]);rw[aX]at g;have t1:=gM ck 0;clear aX;clear g;refine DR BC gh gh ?_;simp only[Bv,Bw];refine Cr BC ?_ (λ_ _ h=>by cases h) rfl rfl ?_ ?_;rotate_left 1
    .intro w' G C hC;have q0:=(G.cell (p:=gX b5 0) zy).trans u0;have q1:=(G.cell (p:=gX b5 1) zy).trans u1;go_simp;try go_bits
     exact hC
    simp only[AX,AI,AH];refine C5 (.is (io ck)) (λ_ _ h=>by cases h) rfl rfl (Cq _) (λw' G=>?_) ?_
    .go_simp;exact⟨AC _ _,(Fr w' f.id _ f.c f.A f.fs ((aa.keep λp hp=>G.cell hp).more G.size)).mono λe ax h=>Db (by rw[h.1,aj.o]) h.2⟩
    simp only[AX,AI,AH];iterate 29 ((first|(refine zS rfl ?_)|(refine zV ?_ rfl ?_ ?_;rotate_left 1;(·intro w' G C hC;go_simp;(try go_bits);exact hC)));simp only[AX,AI,AH])
    intro w6 ag;simp only[C6];have T:=BY ag;(go_wp2_with fail);go_ret;exact⟨by rw[HF.o];rfl,by rw[am.o];exact(aw.trans (aE.o.mono (Ad ad))).trans (T.mono Z)⟩
   have aL:ga (check f.id f.fs=0):=AB gd;have aj:ga ((check f.id f.fs:Int)=0):=AB (by rw[aL.o];rfl);have bG:f.fs.length<=8:=(Ef aL.o).2.2;have bH:1<=f.id.toNat:=(Ef aL.o).1;clear g;by_cases g:f.id.toNat<=wid.toNat
   .have HF:ga (R=false):=AB (by rw[HR.o];exact Fw aq.o (by rw[az.o];show(_&&(decide (wid.toNat<f.id.toNat)&&_))=false;rw[AG (show ¬wid.toNat<f.id.toNat by omega)];simp));have t2:f.id.toNat<=wid.toNat:=g;clear g;refine DR BC gh gh ?_;simp only[Bv,Bw];refine Cr BC ?_ (λ_ _ h=>by cases h) rfl rfl ?_ ?_;rotate_left 1
    .intro w' G C hC;have q0:=(G.cell (p:=gX b5 0) zy).trans u0;have q1:=(G.cell (p:=gX b5 1) zy).trans u1;go_simp;try go_bits
     exact hC
    simp only[AX,AI,AH];refine C5 (.is (io 0)) (λ_ _ h=>by cases h) rfl rfl (Cq _) (λw' G=>?_) ?_
    .go_simp;exact⟨AC _ _,(Fr w' f.id _ f.c f.A f.fs ((aa.keep λp hp=>G.cell hp).more G.size)).mono λe ax h=>Db (by rw[h.1,aj.o]) h.2⟩
    simp only[AX,AI,AH];iterate 29 ((first|(refine zS rfl ?_)|(refine zV ?_ rfl ?_ ?_;rotate_left 1;(·intro w' G C hC;have q0:=(G.cell (p:=gX b5 0) zy).trans u0;have q1:=(G.cell (p:=gX b3 0) zx).trans v0;go_simp;(try go_bits);exact hC)));simp only[AX,AI,AH])
    intro w6 ag;simp only[C6];have T:=BY ag;(go_wp2_with fail);go_ret;exact⟨by rw[HF.o];rfl,by rw[am.o];exact(aw.trans (aE.o.mono (Ad ad))).trans (T.mono Z)⟩
   have t2:¬f.id.toNat<=wid.toNat:=g;clear g;by_cases g:f.fs.length<I.length
   .have HF:ga (R=false):=AB (by rw[HR.o];exact Fw aq.o (by rw[az.o];show(_&&(_&&(decide (I.length<=f.fs.length)&&_)))=false;rw[AG (show ¬I.length<=f.fs.length by omega)];simp));have t3:f.fs.length<I.length:=g;clear g;refine DR BC gh gh ?_;simp only[Bv,Bw];refine Cr BC ?_ (λ_ _ h=>by cases h) rfl rfl ?_ ?_;rotate_left 1
    .intro w' G C hC;have q0:=(G.cell (p:=gX b5 0) zy).trans u0;have q1:=(G.cell (p:=gX b5 1) zy).trans u1;go_simp;try go_bits
     exact hC
    simp only[AX,AI,AH];refine C5 (.is (io 0)) (λ_ _ h=>by cases h) rfl rfl (Cq _) (λw' G=>?_) ?_
    .go_simp;exact⟨AC _ _,(Fr w' f.id _ f.c f.A f.fs ((aa.keep λp hp=>G.cell hp).more G.size)).mono λe ax h=>Db (by rw[h.1,aj.o]) h.2⟩
    simp only[AX,AI,AH];iterate 29 ((first|(refine zS rfl ?_)|(refine zV ?_ rfl ?_ ?_;rotate_left 1;(·intro w' G C hC;have q0:=(G.cell (p:=gX b5 0) zy).trans u0;have q1:=(G.cell (p:=gX b3 0) zx).trans v0;have q2:=(G.cell (p:=gX b5 1) zy).trans u1;have q3:=(G.cell (p:=gX b3 1) zx).trans v1;go_simp;(try go_bits);exact hC)));simp only[AX,AI,AH])
    intro w6 ag;simp only[C6];have T:=BY ag;(go_wp2_with fail);go_ret;exact⟨by rw[HF.o];rfl,by rw[am.o];exact(aw.trans (aE.o.mono (Ad ad))).trans (T.mono Z)⟩
   have t3:¬f.fs.length<I.length:=g;clear g;have bE:f.fs.length<=f.c:=af.le;have hcut:=λW=>Ev Ex f.A f.fs.length f.c .i64 (I.length:Int) I.length rfl gd W;have bq:=λW=>EN Ex f.A f.fs.length f.c .i64 (I.length:Int) I.length rfl gd W;obtain⟨eq,a6⟩:=ia (DS (f.fs.take I.length) I);have aF:=AB a6;clear a6;by_cases g:eq=false
   .have HF:ga (R=false):=AB (by rw[HR.o];exact Fw aq.o (by rw[az.o];show(_&&(_&&(_&&DS (f.fs.take I.length) I)))=false;rw[aF.o,g];simp));rw[g]at aF;clear g;refine DR BC gh gh ?_;simp only[Bv,Bw];refine Cr BC ?_ (λ_ _ h=>by cases h) rfl rfl ?_ ?_;rotate_left 1
    .intro w' G C hC;have q0:=(G.cell (p:=gX b5 0) zy).trans u0;have q1:=(G.cell (p:=gX b5 1) zy).trans u1;go_simp;try go_bits
     exact hC
    simp only[AX,AI,AH];refine C5 (.is (io 0)) (λ_ _ h=>by cases h) rfl rfl (Cq _) (λw' G=>?_) ?_
    .go_simp;exact⟨AC _ _,(Fr w' f.id _ f.c f.A f.fs ((aa.keep λp hp=>G.cell hp).more G.size)).mono λe ax h=>Db (by rw[h.1,aj.o]) h.2⟩
    simp only[AX,AI,AH];iterate 26 (refine zV ?_ rfl ?_ ?_;rotate_left 1;(·intro w' G C hC;have q0:=(G.cell (p:=gX b5 0) zy).trans u0;have q1:=(G.cell (p:=gX b3 0) zx).trans v0;have q2:=(G.cell (p:=gX b5 1) zy).trans u1;have q3:=(G.cell (p:=gX b3 1) zx).trans v1;go_simp;(try go_bits);exact hC);simp only[AX,AI,AH])
    refine C5 (.is (.bool false)) (λ_ _ h=>by cases h) rfl rfl (Cq _) (λw' G=>?_) ?_
    .go_simp;exact⟨AC _ _,(Nc w' w'.heap.size I.length f.c _ wc f.A wA (f.fs.take I.length) I (by have:=(aa.keep λp hp=>G.cell hp).pre (hi:=I.length) gd;exact(by simpa [J7]using this.more G.size)) (((aC.more Z).keep λp hp=>G.cell hp).more G.size) (AD _) gt).mono λe ax h=>Db (by rw[h.1,aF.o]) h.2⟩
    simp only[AX,AI,AH];iterate 2 (refine zV ?_ rfl ?_ ?_;rotate_left 1;(·intro w' G C hC;go_simp;(try go_bits);exact hC);simp only[AX,AI,AH])
    intro w6 ag;simp only[C6];have T:=BY ag;(go_wp2_with fail);go_ret;exact⟨by rw[HF.o];rfl,by rw[am.o];exact(aw.trans (aE.o.mono (Ad ad))).trans (T.mono Z)⟩
   obtain rfl:eq=true:=by cases eq with|true=>rfl|false=>exact absurd rfl g
   have aY:ga (sOk (ss.map dK) k=true):=AB (by
    rw[az.o];show(decide (check f.id f.fs=0)&&(decide (wid.toNat<f.id.toNat)&&(decide (I.length<=f.fs.length)&&DS (f.fs.take I.length) I)))=true;rw[AF aL.o,AF (show wid.toNat<f.id.toNat by omega),AF (show I.length<=f.fs.length by omega),aF.o];rfl)
   clear g;refine DR BC gh gh ?_;simp only[Bv,Bw];refine Cr BC ?_ (λ_ _ h=>by cases h) rfl rfl ?_ ?_;rotate_left 1
   .intro w' G C hC;have q0:=(G.cell (p:=gX b5 0) zy).trans u0;have q1:=(G.cell (p:=gX b5 1) zy).trans u1;go_simp;try go_bits
    exact hC
   simp only[AX,AI,AH];refine C5 (.is (io 0)) (λ_ _ h=>by cases h) rfl rfl (Cq _) (λw' G=>?_) ?_
   .go_simp;exact⟨AC _ _,(Fr w' f.id _ f.c f.A f.fs ((aa.keep λp hp=>G.cell hp).more G.size)).mono λe ax h=>Db (by rw[h.1,aj.o]) h.2⟩
   simp only[AX,AI,AH];iterate 26 (refine zV ?_ rfl ?_ ?_;rotate_left 1;(·intro w' G C hC;have q0:=(G.cell (p:=gX b5 0) zy).trans u0;have q1:=(G.cell (p:=gX b3 0) zx).trans v0;have q2:=(G.cell (p:=gX b5 1) zy).trans u1;have q3:=(G.cell (p:=gX b3 1) zx).trans v1;go_simp;(try go_bits);exact hC);simp only[AX,AI,AH])
   refine C5 (.is (.bool true)) (λ_ _ h=>by cases h) rfl rfl (Cq _) (λw' G=>?_) ?_
   .go_simp;exact⟨AC _ _,(Nc w' w'.heap.size I.length f.c _ wc f.A wA (f.fs.take I.length) I (by have:=(aa.keep λp hp=>G.cell hp).pre (hi:=I.length) gd;exact(by simpa [J7]using this.more G.size)) (((aC.more Z).keep λp hp=>G.cell hp).more G.size) (AD _) gt).mono λe ax h=>Db (by rw[h.1,aF.o]) h.2⟩
   simp only[AX,AI,AH];iterate 2 (refine zV ?_ rfl ?_ ?_;rotate_left 1;(·intro w' G C hC;go_simp;(try go_bits);exact hC);simp only[AX,AI,AH])
   intro w6 ag;simp only[C6];have T:=BY ag;have X6:=ak.o.1.keep T ak.o.1.z;have Y6:=ak.o.2.keep T ak.o.2.z;obtain⟨d0,d1⟩:=Y6.c2;obtain⟨e0,e1⟩:=X6.c2;obtain⟨k0,k1⟩:=X6.f2;have bI:b5≠b3:=gd;have bu:=AB X6;have a7:=af.below' T Z;have aZ:Below b3 w2 w6:=aE.o.trans (T.mono (Ad zx));clear u0 u1 v0 v1 aC af aa ag T X6 Y6;(go_wp2_with fail);go_roundw;case rel=>
    refine⟨k+1,f.id,f.A,f.c,f.fs,by go_num,gd,(bu.o.set (j:=0) _ rfl).set (j:=1) _ rfl,?_,AB (by rw[Nk,aW.o];rfl),AB (λj hj=>?_),Cf aZ b3 (AD _) _ _⟩
    .exact TM a7 b3 (Ad ad) _ _
    by_cases e:j=k
    .rw[e];exact aY.o
    exact ai.o j gd
   case measure=>simp[intOf];omega
  have aG:ga (∀j,j<(ss.map dK).length->sOk (ss.map dK) j=true):=AB (λj hj=>ai.o j (by rw[Ae]at hj;omega));have a8:∀s∈ss,s.fs.length<=1000000:=λs hs=>by
   obtain⟨j,hj,rfl⟩:=List.getElem_of_mem hs;have h1:=aG.o j (by rw[Ae];exact hj);unfold sOk at h1;rw[Gc]at h1;simp only[BX,BI]at h1;have h2:=(Ef h1.1).2.2;have e:ss.getD j default=ss[j]:=by simp[List.getD,hj]
   rw[e]at h2;show ss[j].fs.length<=1000000;have:(dK ss[j]).2=ss[j].fs:=rfl;rw[this]at h2;omega
  have bv:=AB a8;have aP:w2.heap.size<=wr.heap.size:=O.size;have ae:=aU.below (O.mono (Ad ad));have a9:=(O.cell (p:=gX b1 0) ad).trans c0;have ba:=(O.cell (p:=gX b1 1) ad).trans c1;have be:=(O.cell (p:=gX b1 2) ad).trans c2;have bg:Below b1 w wr:=aw.trans (O.mono (Ad ad));have ah:b1<wr.heap.size:=gd;clear a8 X aV ao ai O aU c0 c1 c2 a4 x2;obtain⟨x6,T⟩:=gZ wr #[il 0,il 0,il 0,il 0,il 0,im 0,ir] 43;have bw:=ae.below (T.mono (Ad ah));have d0:=(T.cell (p:=gX b1 0) ah).trans a9;have d1:=(T.cell (p:=gX b1 1) ah).trans ba;have d2:=(T.cell (p:=gX b1 2) ah).trans be;have aZ:Below b1 w _:=bg.trans (T.mono (Ad ah));go_wp2_with fail
  generalize wr.alloc _=w6 at *;generalize wr.heap.size=b6 at *;have bJ:b6<w6.heap.size:=x6.z;clear ae a9 ba be bg T;clear ap hk;go_loopw [70] (λiv wq=>∃(k:Nat) (p:Sn) (A:Option Addr) (c:Nat),iv = io k/\k<=ns.length/\dH wq b6 #[il p.id.toNat,il p.par.toNat,il p.seq.toNat,il p.off.toNat,il p.tim.toNat,im p.sch.toNat,.slice A p.ms.length c].toList/\ga (CK (ns.map dL) k=p)/\ga (∀j,j<k->nOk (ss.map dK) (ns.map dL) j=true)/\Below b6 w6 wq) (λiv _=>ns.length-(intOf iv).toNat);case atStart=>exact⟨0,default,none,0,rfl,AU _,x6,AB rfl,AB (λj h=>gd),AC _ _⟩
  case round=>
   clear aP;obtain⟨m,p,pA,pc,rfl,hm,X,ao,ai,O⟩:=hrel;have e0:=(O.cell (p:=gX b1 0) ah).trans d0;have e1:=(O.cell (p:=gX b1 1) ah).trans d1;have e2:=(O.cell (p:=gX b1 2) ah).trans d2;have a0:Below b1 w wr:=aZ.trans (O.mono (Ad ah));have ae:=(bw.below (O.mono (Ad ah))).more (show b1<=wr.heap.size by have:=O.size;omega);by_cases ap:m<ns.length
   .obtain⟨b,off,rfl,hb,f0,f1,f2,f3,f4,f5,f6⟩:=ae.nrow.nl ap;have ay:=ae.n_at ap;have ar:=JK ns m;generalize hf:ns.getD m default=f at *;have bh:=Nn (ss:=ss.map dK) (s:=f.p) (was:=p) ar ao.o;have aM:=AB bh;have aW:=AB ar;have aB:m<(ns.map dL).length:=by rw[Ae];exact ap
    have aq:=AB aB;clear hf ar bh aB;obtain⟨y,V⟩:=gZ wr #[il f.p.id.toNat,il f.p.par.toNat,il f.p.seq.toNat,il f.p.off.toNat,il f.p.tim.toNat,im f.p.sch.toNat,.slice f.A f.p.ms.length f.c] 43;have X5:=X.keep V X.z;have bB:b6<wr.heap.size:=X.z;have bi:=ae.later V;have af:=(ay.below V).more V.size;have aD:Below b6 w6 _:=AM O (Ad bB) V;have i0:=(V.cell (p:=gX b1 0) (show b1<wr.heap.size by omega)).trans e0;have i1:=(V.cell (p:=gX b1 1) (show b1<wr.heap.size by omega)).trans e1;have i2:=(V.cell (p:=gX b1 2) (show b1<wr.heap.size by omega)).trans e2;have aH:Below b1 w _:=AM a0 (show b1<=wr.heap.size by omega) V;have g0:=y.cell 0 _ rfl;have v0:=X5.cell 0 _ rfl;have g1:=y.cell 1 _ rfl;have v1:=X5.cell 1 _ rfl;have g2:=y.cell 2 _ rfl;have v2:=X5.cell 2 _ rfl;have g3:=y.cell 3 _ rfl;have v3:=X5.cell 3 _ rfl;have g4:=y.cell 4 _ rfl;have v4:=X5.cell 4 _ rfl;have g5:=y.cell 5 _ rfl;have v5:=X5.cell 5 _ rfl;have g6:=y.cell 6 _ rfl;have v6:=X5.cell 6 _ rfl;have a1:=AB X5;have HY:=AB y;clear y X5;(go_upto_region 15 with fail);go_cut [70,100] from 70 to 143 (λiv v wx=>iv = io m/\v = .bool (!(n15 p f.p))/\wx=wr.alloc (.cells #[il f.p.id.toNat,il f.p.par.toNat,il f.p.seq.toNat,il f.p.off.toNat,il f.p.tim.toNat,im f.p.sch.toNat,.slice f.A f.p.ms.length f.c] 43));case first=>
     by_cases h1:f.p.id.toNat<=p.id.toNat
     .have HN:ga (n15 p f.p=false):=AB (by unfold n15;rw[AG (show ¬p.id.toNat<f.p.id.toNat by omega)];rfl);(go_wp2_with fail);go_meet;exact⟨rfl,by rw[HN.o];rfl,rfl⟩
     by_cases h2:1073741824<f.p.id.toNat
     .have t2:=gG 1073741824 f.p.id.toNat
      have HN:ga (n15 p f.p=false):=AB (by unfold n15;rw[AG (show ¬f.p.id.toNat<=1073741824 by omega)];simp);clear h2;(go_wp2_with fail);go_meet;exact⟨rfl,by rw[HN.o];rfl,rfl⟩
     have t2:=gH 1073741824 f.p.id.toNat
     by_cases h3:f.p.id.toNat<=f.p.par.toNat
     .have HN:ga (n15 p f.p=false):=AB (by unfold n15;rw[AG (show ¬f.p.par.toNat<f.p.id.toNat by omega)];simp);clear h2;(go_wp2_with fail);go_meet;exact⟨rfl,by rw[HN.o];rfl,rfl⟩
     have HN:ga (n15 p f.p=decide (f.p.seq.toNat<=1073741824/\f.p.off.toNat<=1073741824/\f.p.tim.toNat<=1073741824)):=AB (by
      unfold n15;rw[AF (show p.id.toNat<f.p.id.toNat by omega),AF (show f.p.id.toNat<=1073741824 by omega),AF (show f.p.par.toNat<f.p.id.toNat by omega)];rfl)
     generalize f.p.seq.toNat=q1 at *;generalize f.p.off.toNat=q2 at *;generalize f.p.tim.toNat=q3 at *;clear h2;go_wp2_with fail
     all_goals go_meet
     all_goals refine⟨rfl,?_,rfl⟩
     all_goals rw[HN.o]
     all_goals clear HN
     all_goals congr 1
     all_goals rw[Cx]
     all_goals simp only[BI,GQ,decide_eq_false_iff_not]
     all_goals omega
    case rest=>
     obtain⟨rfl,rfl,rfl⟩:=hcut;generalize wr.alloc _=w7 at *;generalize wr.heap.size=b8 at *;clear f0 f1 f2 f3 f4 f5 f6 e0 e1 e2 a0 ae ay X V O;cases au:n15 p f.p with
     | false=>
       have HF:ga (R=false):=AB (by rw[HR.o];exact Gd aq.o (by rw[aM.o,FY,au];rfl));clear au;(go_wp2_with fail);go_ret;exact⟨by rw[HF.o];rfl,by rw[am.o];exact aH⟩
     | true=>
       have aI:=AB au;clear au;(go_upto_region 17 with fail);go_cut [70,132] from 70 to 143 (λiv v wx=>iv = io m/\v = .bool (!(n17 p f.p&&BJ f.p.ms))/\Below w7.heap.size w7 wx);case first=>
        by_cases h0:f.p.seq.toNat<p.seq.toNat
        .have HN:ga (n17 p f.p=false):=AB (by unfold n17;rw[AG (show ¬p.seq.toNat<=f.p.seq.toNat by omega)];simp);(go_wp2_with fail);go_meet;exact⟨rfl,by rw[HN.o];rfl,AC _ _⟩
        by_cases h1:f.p.off.toNat<p.off.toNat
        .have HN:ga (n17 p f.p=false):=AB (by unfold n17;rw[AG (show ¬p.off.toNat<=f.p.off.toNat by omega)];simp);(go_wp2_with fail);go_meet;exact⟨rfl,by rw[HN.o];rfl,AC _ _⟩
        by_cases h2:f.p.tim.toNat<p.tim.toNat
        .have HN:ga (n17 p f.p=false):=AB (by unfold n17;rw[AG (show ¬p.tim.toNat<=f.p.tim.toNat by omega)];simp);(go_wp2_with fail);go_meet;exact⟨rfl,by rw[HN.o];rfl,AC _ _⟩
        by_cases h3:f.p.sch.toNat<p.sch.toNat
        .have HN:ga (n17 p f.p=false):=AB (by unfold n17;rw[AG (show ¬p.sch.toNat<=f.p.sch.toNat by omega)];simp);(go_wp2_with fail);go_meet;exact⟨rfl,by rw[HN.o];rfl,AC _ _⟩
        have HN:ga (n17 p f.p=true):=AB (by unfold n17;rw[AF (show p.seq.toNat<=f.p.seq.toNat by omega),AF (show p.off.toNat<=f.p.off.toNat by omega),AF (show p.tim.toNat<=f.p.tim.toNat by omega),AF (show p.sch.toNat<=f.p.sch.toNat by omega)];rfl);(go_wp2_with fail);refine(Tx w7 _ f.c f.A f.p.ms af).mono ?_;rintro e w8 ⟨rfl,ab⟩;(go_wp2_with fail);go_meet;exact⟨rfl,by rw[HN.o];rfl,ab⟩
       case rest=>
        obtain⟨rfl,rfl,ab⟩:=hcut;have X8:=a1.o.keep ab a1.o.z;have Y8:=HY.o.keep ab HY.o.z;have z8:b6<w7.heap.size:=a1.o.z;have bj:=bi.later ab;have j0:=(ab.cell (p:=gX b1 0) (show b1<w7.heap.size by omega)).trans i0;have j1:=(ab.cell (p:=gX b1 1) (show b1<w7.heap.size by omega)).trans i1;have j2:=(ab.cell (p:=gX b1 2) (show b1<w7.heap.size by omega)).trans i2;have aJ:Below b1 w wc:=AM aH (show b1<=w7.heap.size by omega) ab;have bk:Below b6 w6 wc:=AM aD (Ad z8) ab;have zc:b6<wc.heap.size:=AV z8 ab.size;clear g0 v0 g1 v1 g2 v2 g3 v3 g4 v4 g5 v5 g6 v6 i0 i1 i2 bi aD aH af ab;cases av:n17 p f.p&&BJ f.p.ms with
        | false=>
          have HF:ga (R=false):=AB (by rw[HR.o];exact Gd aq.o (by rw[aM.o,FY,aI.o];simp only[CV];rw[<-Bool.and_assoc,av];rfl));clear av;(go_wp2_with fail);go_ret;exact⟨by rw[HF.o];rfl,by rw[am.o];exact aJ⟩
        | true=>
          have aQ:=AB av;clear av;obtain⟨g0,g1,g2,g3,g4,g5,g6⟩:=Y8.c7;have ak:=gR X8 Y8;have bl:=Nm ss f.p.sch;have HH:=AB bl;clear X8 Y8 bl;(go_wp2_with fail);refine(U0 wc sA sc ss _ nc ns cur bj (by have:=HL.o;omega) bv.o f.p.sch).mono ?_;rintro e w9 ⟨F,fc,rfl,_,hb9⟩;obtain⟨i,hi⟩:=ib (cIx ss f.p.sch);rw[<-hi];have HI:=AB hi;generalize He ss i=si at *;generalize FW ss i=sf at *;clear hi;have X9:=ak.o.1.keep hb9 ak.o.1.z;have Y9:=ak.o.2.keep hb9 ak.o.2.z;have aR:Below b1 w w9:=AM aJ (show b1<=wc.heap.size by omega) hb9;have bm:Below b6 w6 w9:=AM bk (Ad zc) hb9;have z9:b6<w9.heap.size:=AV zc hb9.size;clear g0 g1 g2 g3 g4 g5 g6 j0 j1 j2 bj aJ bk hb9;cases hd:decide (0<=i)with
          | false=>
            have HF:ga (R=false):=AB (by rw[HR.o];exact Gd aq.o (by rw[aM.o,FY,aI.o];simp only[CV];rw[<-Bool.and_assoc,aQ.o,HH.o,<-HI.o,hd];rfl));clear hd X9 Y9;(go_wp2_with fail);go_ret;exact⟨by rw[HF.o];rfl,by rw[am.o];exact aR.alloc (show b1<=w9.heap.size by omega) _⟩
          | true=>
            have aY:ga (nOk (ss.map dK) (ns.map dL) m=true):=AB (by rw[aM.o,FY,aI.o];simp only[CV];rw[<-Bool.and_assoc,aQ.o,HH.o,<-HI.o,hd];rfl);have aN:=hI w9 (.cells #[im si.toNat,.slice F sf.length fc] 33);have XA:=X9.keep aN X9.z;have YA:=Y9.keep aN Y9.z;have bC:Below b6 w6 _:=AM bm (Ad z9) aN;(go_upto_region 22 with fail);generalize w9.alloc _=wT at *;obtain⟨g0,g1,g2,g3,g4,g5,g6⟩:=YA.c7;have v0:=XA.cell 0 _ rfl;have k0:=XA.free 0 gj;have v1:=XA.cell 1 _ rfl;have k1:=XA.free 1 gj;have v2:=XA.cell 2 _ rfl;have k2:=XA.free 2 gj;have v3:=XA.cell 3 _ rfl;have k3:=XA.free 3 gj;have v4:=XA.cell 4 _ rfl;have k4:=XA.free 4 gj;have v5:=XA.cell 5 _ rfl;have k5:=XA.free 5 gj;have v6:=XA.cell 6 _ rfl;have k6:=XA.free 6 gj;have bK:b8≠b6:=gd;have bD:=AB XA;clear hd X9 Y9 XA YA bm aR aN;(go_wp2_with fail);go_roundw;case rel=>
             refine⟨m+1,f.p,f.A,f.c,by go_num,gd,bD.o.set7,AB (by rw[JL,aW.o];rfl),AB (λj hj=>?_),Hc bC (AD _)⟩;by_cases e:j=m
             .rw[e];exact aY.o
             exact ai.o j gd
            case measure=>simp[intOf];omega
   have HF:ga (R=decide (cur=p.id.toNat)):=AB (by
    rw[HR.o,Np (by simp only[Ae];exact HL.o) aG.o (λj hj=>ai.o j (by rw[Ae]at hj;omega))];rw[Ae,show ns.length=m by omega,ao.o])
   have v0:=X.cell 0 _ rfl;obtain⟨a2,aK⟩:=ib (decide (cur=p.id.toNat));have hq:((cur:Int)==(p.id.toNat:Int))=a2:=by rw[aK,Cx];simp;omega
   have HE:=AB aK;clear aK;(go_wp2_with fail);go_ret;exact⟨by rw[HF.o,<-HE.o];first|rfl|(rw[hq];rfl),by rw[am.o];exact a0⟩
theorem UB (w sA sc ss nA nc ns cur)(hT:TabR w w.heap.size sA sc ss nA nc ns)(h1:ss.length<=1000000)(h2:∀s∈ss,s.fs.length<=1000000)(h3:ns.length<=1000000)(h4:∀s∈ns,s.p.ms.length<=1000000)(p pA pc)(hrp:Rd w w.heap.size 1 pA p.ms.length pc (AY p.ms))(hpm:p.ms.length<=1000000):
 Calls prog 45 #[.agg (dP sA ss.length sc nA ns.length nc cur),.agg (dO p pA pc)] w (Gf w (ss.map dK) (ns.map dL) p):=by
 by_cases au:32<=ns.length
 .have t1:=gI 32 ns.length;have Z:Dw (ss.map dK) (ns.map dL) p=4:=by unfold Dw;rw[AJ (by rw[Ae];exact au)]
  unfold Gf;rw[Z,AE gm];clear au Z;go_enter func45,ntmps45;go_wp2_with fail
  (try simp only[Exit.inBlock,Exit.then]);have af:=hI w (.cells (dP sA ss.length sc nA ns.length nc cur) 39);have av:(w.alloc (.cells (dP sA ss.length sc nA ns.length nc cur) 39)).heap.size=w.heap.size+1:=gj;generalize w.alloc _=w1 at *;have ag:=af.alloc af.size (.cells (dO p pA pc) 43);have aw:(w1.alloc (.cells (dO p pA pc) 43)).heap.size=w1.heap.size+1:=gj;generalize w1.alloc _=w2 at *;have x3:=AP w2 Aa 39;have ah:=ag.alloc ag.size (.cells Aa 39);rw[<-av,<-aw];refine AW (BA (b:=w2.heap.size) rfl _ _ rfl x3) rfl ?_;exact Gg w _ 4 ah
 have t1:=gJ 32 ns.length;obtain⟨P',aE⟩:=ib (Gf w (ss.map dK) (ns.map dL) p);rw[<-aE];have HP:=AB aE;have aR:=AB au;clear au aE;go_enter func45,ntmps45;go_wp2_with fail
 obtain⟨x1,af⟩:=gZ w (dP sA ss.length sc nA ns.length nc cur) 39;have av:(w.alloc (.cells (dP sA ss.length sc nA ns.length nc cur) 39)).heap.size=w.heap.size+1:=gj;generalize w.alloc _=w1 at *;obtain⟨x2,ag⟩:=gZ w1 (dO p pA pc) 43;have aw:(w1.alloc (.cells (dO p pA pc) 43)).heap.size=w1.heap.size+1:=gj;have aF:=x1.keep ag x1.z;have aG:=AM af af.size ag;generalize w1.alloc _=w2 at *;obtain⟨x3,ah⟩:=gZ w2 Aa 39;have a2:=aF.keep ah aF.z;have aH:=x2.keep ah x2.z;have ak:=AM aG aG.size ah;generalize w2.alloc _=w3 at *;have aS:=hT.later ak;have az:=(hrp.below ak).more ak.size;rw[<-av,<-aw];have a6:w.heap.size<w1.heap.size:=gd;have aI:w1.heap.size<w2.heap.size:=gd;have T:w2.heap.size<w3.heap.size:=x3.z;generalize aB:w.heap.size=b1 at *;generalize w1.heap.size=b2 at *;generalize w2.heap.size=b3 at *;have H1:=AB aB;clear av aw af ag ah x1 aF x2 aG hT hrp aB t1;refine(Kl w3 sA sc ss nA nc ns cur aS h1 h2 h3 h4).mono ?_;rintro e w4 ⟨oA,oc,sd,pA',pc',nd,rfl,O4,am,ai,hb4⟩;have X2:=aH.keep hb4 aH.z;have X3:=x3.keep hb4 x3.z;have aC:=(az.below hb4).more hb4.size;have aT:Below b1 w w4:=ak.trans (hb4.mono gd);have aJ:w3.heap.size<=w4.heap.size:=hb4.size;have a3:ga (nd.length=ns.length):=AB (by have:=congrArg List.length ai;simpa using this);have aK:=gR am ai;clear a2 aH x3 aS az hb4 ak am ai;go_wp2_with fail
 have y:=Dv w4 (dP oA sd.length oc pA' nd.length pc' cur) 39;have ad:=hI w4 (.cells (dP oA sd.length oc pA' nd.length pc' cur) 39);have ax:=X2.keep ad X2.z;have aU:=X3.keep ad X3.z;have O5:=O4.keep ad;have aD:=(aC.below ad).more ad.size;have aL:Below b1 w _:=AM aT (show b1<=w4.heap.size by omega) ad;have a7:w4.heap.size<(w4.alloc (.cells (dP oA sd.length oc pA' nd.length pc' cur) 39)).heap.size:=gj;generalize w4.alloc _=w5 at *;generalize w4.heap.size=b6 at *;clear X2 X3 O4 aC aT ad;obtain⟨u0,u1,u2,u3,u4,u5,u6⟩:=ax.c7;have o1:=y.bx.cell 1 _ rfl;have aV:w3.heap.size<=w5.heap.size:=gd;have z2:b2<w5.heap.size:=ax.z;have HY:=gT y O5 ax aU;obtain⟨ti,aM,ao,ap,aq⟩:=DZ Ds.inf;have a8:nd.length<=1000000:=by have:=a3.o;omega
 clear y O5 ax aU;go_cut [] from 14 to 24 (λwx=>∃g cap ae,ae.map dL=nd.map dL++[p]/\BoxT wx b6 #[.slice oA sd.length oc,.slice (gY g 0) ae.length cap,il p.id.toNat].toList 39/\dN wx w3.heap.size oA oc sd (gY g 0) cap ae/\dH wx b3 [ir,ir,il 0]/\Below b1 w wx);case first=>
  rename_i J K1 hJ hK1;have aj:b1<=w5.heap.size:=gd;have aN:b1<=w3.heap.size:=gd;have V:b6≠b2:=gd;refine wp_region_held_drew (S:=λw'=>dH w' b2 (dO p pA pc).toList) gh ?_ (λhHeld=>?_)
  .exact⟨HY.o.2.2.1.cell,HY.o.2.2.1.free,HY.o.2.2.1.z⟩
  refine tK 0 ?_;refine ij 2 (v:=?_) ?_ ?_;rotate_left 1
  ·(intro w hSw;have q0:=hSw.cell 0 _ rfl;have q1:=hSw.cell 1 _ rfl;have q2:=hSw.cell 2 _ rfl;have q3:=hSw.cell 3 _ rfl;have q4:=hSw.cell 4 _ rfl;have q5:=hSw.cell 5 _ rfl;have q6:=hSw.cell 6 _ rfl;go_simp;first|done|with_reducible rfl)
  (try simp only[Act.put]);refine ij 6 (v:=?_) ?_ ?_;rotate_left 1
  ·(intro w hSw;go_simp;first|done|with_reducible rfl)
  (try simp only[Act.put]);refine ij 7 (v:=?_) ?_ ?_;rotate_left 1
  ·(intro w hSw;have q0:=hSw.cell 0 _ rfl;have q1:=hSw.cell 1 _ rfl;have q2:=hSw.cell 2 _ rfl;have q3:=hSw.cell 3 _ rfl;have q4:=hSw.cell 4 _ rfl;have q5:=hSw.cell 5 _ rfl;have q6:=hSw.cell 6 _ rfl;go_simp;first|done|with_reducible rfl)
  (try simp only[Act.put]);refine wpAnyH_ready (rs:=[1,3]) gh gj ?_;refine AllReadyH.cons rfl (λK hK=>?_) (AllReadyH.cons rfl (λK hK=>?_) (AllReadyH.nil))
  .go_simp;refine hK.out _ _ hHeld (λhHeld=>?_);clear hK K;refine ie ?_;refine rD 3 λK hK=>?_;go_simp;go_at_call 105;refine(JH w5.drew p pA pc aD.drew hpm).mono ?_;rintro e w6 ⟨A6,c6,rfl,hown6,hb6⟩;have G:=BY hb6;have aO:=HY.o.2.2.1.keep G z2;have a4:=(HY.o.1.keep G).bx.cell 1 _ rfl;have ar:=hI w6 (.cells (dO p A6 c6) 43);have HL:=AB (Nq (HY.o.2.1.keep G) hown6 aV G.size (HY.o.1.keep G) (HY.o.2.2.1.keep G z2) (HY.o.2.2.2.keep G HY.o.2.2.2.z));have a5:=((HY.o.1.keep G).keep ar).bx.cell 1 _ rfl;clear ar hown6 hb6;dsimp only;refine hK.out _ _ aO (λhHeld=>?_);clear hK K;refine ie ?_;refine rD 4 λK hK=>?_;go_simp;refine hK.out _ _ HL.o.2.2.2.2.2.1 (λhHeld=>?_);clear hK K;refine ie ?_;refine rD 5 λK hK=>?_;refine Cw _ rfl (.tmp 15) (.tmp 18) 37 rfl w3.heap.size 43 ti _ 7 72 underlying37 aM ao ap aq Ds.zs gm _ nd.length (BQ nd) (by simp[Act.eval]) HL.o.1.nown _ 1 1 (nlV ⟨p,A6,c6⟩) (by simp[Act.eval]) rfl HL.o.2.1 (FU _) gd gq gd HL.o.2.2.1 _ rfl ?_;intro g cap w8 O aa _ _;have ab:=Kp HL.o.1 HL.o.2.2.2.1 HL.o.2.2.2.2.1 HL.o.2.2.2.2.2.1 HL.o.2.2.2.2.2.2 O aa (Nat.lt_trans aI T) T HL.o.2.2.1;have I:=AB ab;obtain⟨-,aW,aX⟩:=I.o.2.1.bx.c3;obtain⟨-,aY,aZ⟩:=I.o.2.1.bx.f3;clear O aa ab;refine hK.out _ _ I.o.2.2.1 (λhHeld=>?_);clear hK K;(try simp only[Act.put,AK]);refine ij 8 (v:=?_) ?_ ?_;rotate_left 1
   ·(intro w hSw;go_simp;first|done|with_reducible rfl)
   (try simp only[Act.put]);refine rD 9 λK hK=>?_;go_simp;refine hK.out _ _ (I.o.2.2.1.else (p:=gX b6 1) V _) (λhHeld=>?_);clear hK K;refine ie ?_;refine tK 10 ?_;refine rD 11 λK hK=>?_;go_simp;refine hK.out _ _ ((I.o.2.2.1.else (p:=gX b6 1) V _).else (p:=gX b6 2) V _) (λhHeld=>?_);clear hK K;refine ie ?_;refine wpAnyH_done gh ?_ _;refine hK1 _ _ ?_;go_meet;exact Kq I.o (AM (aL.trans (G.mono aj)) (AS aj G.size) (hI w6 _)) aN aJ T
  go_simp;go_at_call 105;refine(JH w5.drew p pA pc aD.drew hpm).mono ?_;rintro e w6 ⟨A6,c6,rfl,hown6,hb6⟩;have G:=BY hb6;have aO:=HY.o.2.2.1.keep G z2;have a4:=(HY.o.1.keep G).bx.cell 1 _ rfl;have ar:=hI w6 (.cells (dO p A6 c6) 43);have HL:=AB (Nq (HY.o.2.1.keep G) hown6 aV G.size (HY.o.1.keep G) (HY.o.2.2.1.keep G z2) (HY.o.2.2.2.keep G HY.o.2.2.2.z));have a5:=((HY.o.1.keep G).keep ar).bx.cell 1 _ rfl;clear ar hown6 hb6;dsimp only;refine hK.out _ _ aO (λhHeld=>?_);clear hK K;refine ie ?_;refine wpAnyH_ready (rs:=[1,4]) gh gj ?_;refine AllReadyH.cons rfl (λK hK=>?_) (AllReadyH.cons rfl (λK hK=>?_) (AllReadyH.nil))
  .go_simp;refine hK.out _ _ hHeld (λhHeld=>?_);clear hK K;refine ie ?_;refine rD 4 λK hK=>?_;go_simp;refine hK.out _ _ HL.o.2.2.2.2.2.1 (λhHeld=>?_);clear hK K;refine ie ?_;refine rD 5 λK hK=>?_;refine Cw _ rfl (.tmp 15) (.tmp 18) 37 rfl w3.heap.size 43 ti _ 7 72 underlying37 aM ao ap aq Ds.zs gm _ nd.length (BQ nd) (by simp[Act.eval]) HL.o.1.nown _ 1 1 (nlV ⟨p,A6,c6⟩) (by simp[Act.eval]) rfl HL.o.2.1 (FU _) gd gq gd HL.o.2.2.1 _ rfl ?_;intro g cap w8 O aa _ _;have ab:=Kp HL.o.1 HL.o.2.2.2.1 HL.o.2.2.2.2.1 HL.o.2.2.2.2.2.1 HL.o.2.2.2.2.2.2 O aa (Nat.lt_trans aI T) T HL.o.2.2.1;have I:=AB ab;obtain⟨-,aW,aX⟩:=I.o.2.1.bx.c3;obtain⟨-,aY,aZ⟩:=I.o.2.1.bx.f3;clear O aa ab;refine hK.out _ _ I.o.2.2.1 (λhHeld=>?_);clear hK K;(try simp only[Act.put,AK]);refine ij 8 (v:=?_) ?_ ?_;rotate_left 1
   ·(intro w hSw;go_simp;first|done|with_reducible rfl)
   (try simp only[Act.put]);refine rD 9 λK hK=>?_;go_simp;refine hK.out _ _ (I.o.2.2.1.else (p:=gX b6 1) V _) (λhHeld=>?_);clear hK K;refine ie ?_;refine tK 10 ?_;refine rD 11 λK hK=>?_;go_simp;refine hK.out _ _ ((I.o.2.2.1.else (p:=gX b6 1) V _).else (p:=gX b6 2) V _) (λhHeld=>?_);clear hK K;refine ie ?_;refine wpAnyH_done gh ?_ _;refine hK1 _ _ ?_;go_meet;exact Kq I.o (AM (aL.trans (G.mono aj)) (AS aj G.size) (hI w6 _)) aN aJ T
  go_simp;refine hK.out _ _ HL.o.2.2.2.2.2.1 (λhHeld=>?_);clear hK K;refine ie ?_;refine rD 1 λK hK=>?_;go_simp;refine hK.out _ _ hHeld (λhHeld=>?_);clear hK K;refine ie ?_;refine rD 5 λK hK=>?_;refine Cw _ rfl (.tmp 15) (.tmp 18) 37 rfl w3.heap.size 43 ti _ 7 72 underlying37 aM ao ap aq Ds.zs gm _ nd.length (BQ nd) (by simp[Act.eval]) HL.o.1.nown _ 1 1 (nlV ⟨p,A6,c6⟩) (by simp[Act.eval]) rfl HL.o.2.1 (FU _) gd gq gd HL.o.2.2.1 _ rfl ?_;intro g cap w8 O aa _ _;have ab:=Kp HL.o.1 HL.o.2.2.2.1 HL.o.2.2.2.2.1 HL.o.2.2.2.2.2.1 HL.o.2.2.2.2.2.2 O aa (Nat.lt_trans aI T) T HL.o.2.2.1;have I:=AB ab;obtain⟨-,aW,aX⟩:=I.o.2.1.bx.c3;obtain⟨-,aY,aZ⟩:=I.o.2.1.bx.f3;clear O aa ab;refine hK.out _ _ I.o.2.2.1 (λhHeld=>?_);clear hK K;(try simp only[Act.put,AK]);refine ij 8 (v:=?_) ?_ ?_;rotate_left 1
  ·(intro w hSw;go_simp;first|done|with_reducible rfl)
  (try simp only[Act.put]);refine rD 9 λK hK=>?_;go_simp;refine hK.out _ _ (I.o.2.2.1.else (p:=gX b6 1) V _) (λhHeld=>?_);clear hK K;refine ie ?_;refine tK 10 ?_;refine rD 11 λK hK=>?_;go_simp;refine hK.out _ _ ((I.o.2.2.1.else (p:=gX b6 1) V _).else (p:=gX b6 2) V _) (λhHeld=>?_);clear hK K;refine ie ?_;refine wpAnyH_done gh ?_ _;refine hK1 _ _ ?_;go_meet;exact Kq I.o (AM (aL.trans (G.mono aj)) (AS aj G.size) (hI w6 _)) aN aJ T
 case rest=>
  obtain⟨g,cap,ae,a0,hX,hO,aP,hb⟩:=hcut;have am:=aK.o.1;have ai:ae.map dL=ns.map dL++[p]:=by rw[a0,aK.o.2]
  have ay:=gR am ai;have a9:=hX.bx.z;obtain⟨c0,c1,c2⟩:=hX.bx.c3;clear a0 am ai aK;go_wp2_with fail
  refine(Ko wc oA oc sd _ cap ae p.id.toNat hO.tab).mono ?_;rintro e w9 ⟨rfl,hb9⟩;have X6:=hX.bx.keep hb9 hX.bx.z;have X3:=aP.keep hb9 aP.z;have O9:=hO.keep hb9;have a1:Below b1 w w9:=AM hb gd hb9;rw[ay.o.1,ay.o.2];clear c0 c1 c2 hX aP hO hb hb9;have k0:=X3.cell 0 _ rfl;have f0:=X3.free 0 gj;have k1:=X3.cell 1 _ rfl;have f1:=X3.free 1 gj;have k2:=X3.cell 2 _ rfl;have f2:=X3.free 2 gj;have HX:=gR X3 O9;cases hr:B7 (ss.map dK) (ns.map dL++[p]) p.id.toNat with
  | false=>
    have Z:Dw (ss.map dK) (ns.map dL) p=1:=by unfold Dw;rw[AE (by rw[Ae];exact aR.o),hr];rfl
    have aQ:=AB Z;clear Z hr X3 X6 O9;(go_wp2_with fail);(try simp only[Exit.inBlock,Exit.then]);refine AW (BA (b:=b3) rfl _ _ rfl HX.o.1.set3b) rfl ?_;rw[HP.o];unfold Gf;rw[aQ.o,AE gm];exact Gg w _ 1 (by rw[H1.o];exact BV a1 gd)
  | true=>
    have Z:Dw (ss.map dK) (ns.map dL) p=0:=by unfold Dw;rw[AE (by rw[Ae];exact aR.o),hr];rfl
    have aQ:=AB Z;obtain⟨d0,d1,d2⟩:=X6.c3;clear Z hr X3 X6 O9;(go_wp2_with fail);(try simp only[Exit.inBlock,Exit.then]);refine AW (BA (b:=b3) rfl _ _ rfl HX.o.1.set3b) rfl ?_;rw[HP.o];unfold Gf;rw[aQ.o,AJ rfl];exact⟨oA,oc,sd,_,cap,ae,rfl,by rw[H1.o];exact(HX.o.2.set3b T).base gd,ay.o.1,ay.o.2,by rw[H1.o];exact BV a1 gd⟩
theorem UC (w sA sc ss nA nc ns cur)(hT:TabR w w.heap.size sA sc ss nA nc ns)(h3:ns.length<=1000000)(h4:∀s∈ns,s.p.ms.length<=1000000)(ids iA ic)(hri:Rd w w.heap.size 1 iA ids.length ic (CY ids))(hi:ids.length<=1000000)(hbad:Df (ns.map dL) cur ids≠0):
 Calls prog 39 #[.agg (dP sA ss.length sc nA ns.length nc cur.toNat),.slice iA ids.length ic] w (DT w (Df (ns.map dL) cur ids) [] [] 0):=by
 obtain⟨P',ad⟩:=ib (DT w (Df (ns.map dL) cur ids) [] [] 0);rw[<-ad];have HP:=AB ad;have ao:=AB hbad;clear ad hbad;go_enter func39,ntmps39;go_wp2_with fail
 obtain⟨x1,ae⟩:=gZ w (dP sA ss.length sc nA ns.length nc cur.toNat) 39;have ap:(w.alloc (.cells (dP sA ss.length sc nA ns.length nc cur.toNat) 39)).heap.size=w.heap.size+1:=gj;generalize w.alloc _=w1 at *;obtain⟨x2,af⟩:=gZ w1 #[.slice iA ids.length ic] 54;have aq:(w1.alloc (.cells #[.slice iA ids.length ic] 54)).heap.size=w1.heap.size+1:=gj;have ag:=x1.keep af x1.z;have ah:=AM ae ae.size af;generalize w1.alloc _=w2 at *;obtain⟨x3,V⟩:=gZ w2 Aa 39;have ai:=ag.keep V ag.z;have aj:=x2.keep V x2.z;have I:=AM ah ah.size V;generalize w2.alloc _=w3 at *;have ax:=hT.later I;have ar:=(hri.below I).more I.size;rw[<-ap,<-aq];have:w.heap.size<w1.heap.size:=gd;have:w1.heap.size<w2.heap.size:=gd;have:w2.heap.size<w3.heap.size:=x3.z;generalize aa:w.heap.size=b1 at *;generalize w1.heap.size=b2 at *;generalize w2.heap.size=b3 at *;have H1:=AB aa;obtain⟨c0,c1,c2⟩:=ai.c3;have c3:=aj.cell 0 _ rfl;clear ap aq ae af V x1 ag x2 ah hT hri aa;have:b1<w3.heap.size:=gd;go_loopw [13] (λiv wr=>∃k:Nat,k<=ids.length/\iv = io k/\ga (∀j,j<k->FB (ns.map dL) (ids.getD j default)=true)/\Below w3.heap.size w3 wr) (λiv _=>ids.length-(intOf iv).toNat);case atStart=>exact⟨0,AU _,rfl,AB (λj h=>gd),AC _ _⟩
 case round=>
  clear c0 c1 c2 c3;obtain⟨k,hk,rfl,hf,G⟩:=hrel;have X1:=ai.keep G ai.z;have X2:=aj.keep G aj.z;have X3:=x3.keep G x3.z;obtain⟨c0,c1,c2⟩:=X1.c3;have c3:=X2.cell 0 _ rfl;have au:=ax.later G;have ak:=(ar.below G).more G.size;have ay:=G.size;have Z:=AB X3;have am:=AB G;clear X1 X2 X3 G;by_cases av:k<ids.length
  .obtain⟨bi,off,rfl,aH,fi⟩:=ak.u64 av;generalize hd:ids.getD k default=id at *;have HD:=AB hd;clear hd ak;(go_wp2_with fail);refine(JI wr sA sc ss nA nc ns cur.toNat au h3 h4 id).mono ?_;rintro e w4 ⟨A4,c4,rfl,hown4,hb4⟩;have hd:=Nr ns id;generalize decide ((0:Int)<=sIx ns id)=db at hd ⊢;generalize Cg ns (sIx ns id)=q at *;have O:=AB (Z.o.keep hb4 (AV x3.z ay));have T:=AM am.o am.o.size hb4;clear hown4 au c0 c1 c2 c3 fi;have az:=hI w4 (.cells (dO q A4 c4) 43);have:b3<w4.heap.size:=O.o.z;have aB:=AB (T.alloc T.size (.cells (dO q A4 c4) 43));have:w3.heap.size<=w4.heap.size:=T.size;have aw:=AB hd;have aC:=AB T;clear hd T az hb4;cases db with
   | false=>
     have HE:=AB (Ns (cur:=cur) av (by rw[HD.o];exact aw.o.symm));have:b3≠w4.heap.size:=gd;obtain⟨e0,e1,e2⟩:=O.o.c3;obtain⟨f0,f1,f2⟩:=O.o.f3;(go_wp2_with fail);(try simp only[Exit.inBlock,Exit.then]);refine AW (BA (b:=b3) rfl _ _ rfl (O.o.set3b.keep ((AC _ _).alloc (AD _) _) O.o.set3b.z)) rfl ?_;rw[HP.o,HE.o];refine Gg w _ 2 ?_;rw[H1.o];have hz:b1<=w4.heap.size:=gd;have hq:=BV (b:=b3) (v0:=ir) (v1:=ir) (v2:=il 0) (I.trans (aC.o.mono (show b1<=w3.heap.size by omega))) (show b1<=b3 by omega);exact hq.alloc (by rw[show(set3b w4 b3 ir ir (il 0)).heap.size=w4.heap.size by simp[set3b]];exact hz) _
   | true=>
     (go_wp2_with fail);go_roundw;case rel=>
      refine⟨k+1,gd,by go_num,AB (λj hj=>?_),aB.o⟩;by_cases e:j=k
      .rw[e,HD.o];exact aw.o.symm
      exact hf.o j gd
     case measure=>simp[intOf];omega
  have ab:ids.all (FB (ns.map dL))=true:=Nt (λj hj=>hf.o j gd);have HK:ga (DU ids cur=true/\Df (ns.map dL) cur ids=1):=AB (by
   have h0:=ao.o;unfold Df at h0 ⊢;rw[AJ ab]at h0 ⊢;cases hi:DU ids cur with
   | true=>exact⟨rfl,rfl⟩
   | false=>rw[hi]at h0;exact absurd rfl h0)
  obtain⟨f0,f1,f2⟩:=Z.o.f3;obtain⟨e0,e1,e2⟩:=Z.o.c3;clear ab hf;go_wp2_with fail
  refine(Kc wr _ _ _ iA ids ak hi cur).mono ?_;have HI:=HK.o.1;unfold DU at HI;rw[HI];clear HI;rintro e w4 ⟨rfl,rfl⟩;go_wp2_with fail
  (try simp only[Exit.inBlock,Exit.then]);refine AW (BA (b:=b3) rfl _ _ rfl Z.o.set3b) rfl ?_;rw[HP.o,HK.o.2];refine Gg w _ 1 ?_;rw[H1.o];exact BV (I.trans (am.o.mono gd)) gd
theorem UE (w B g c l)(ho:w.ownsRow B 43 7 (.slice (gY g 0) l.length c) l.length (BQ l))(hmax:l.length<=1000000)(fn lb p)(eg:∀args w,(callFunc fn args).run prog w = .ok (.enter fn args) w)(hp:JM w g fn lb p):
 Calls prog 89 #[.slice (gY g 0) l.length c,.func (.func fn) #[] lb] w λe w'=>∃l',l'=l.filter (λf=>!p f)/\e = .returned (.slice (gY g 0) l'.length c)/\w'.ownsRow B 43 7 (.slice (gY g 0) l'.length c) l'.length (BQ l')/\Oth g w w':=by
 have aF:=Km ho;go_enter func89,ntmps89;go_wp2_with fail
 refine(Kf w l.length c (gY g 0) l (Ay ho) hmax fn lb p eg (λW f hb=>(hp W f (Oth.of hb)).mono λe w' h=>⟨h.1,AM hb hb.size h.2⟩)).mono ?_;rintro e w1 ⟨rfl,hb1⟩;have O1:=Ag ho hb1;rcases Nu p l with ⟨k,ad,hk⟩|ae
 .rw[ad];obtain⟨_,ai,aj⟩:=Ny ad;have ax:=AB (O2 hk ai aj);have ak:((k:Int) == -1)=false:=by rw[AQ];omega
  have HP:=AB hp;clear ad ai aj hp;go_wp2_with fail
  go_loopw [5,6] (λiv jv wr=>∃(i j:Nat) (arr:List Nl),iv = io i/\jv = io j/\i<j/\j<=l.length/\ga (arr.length=l.length)/\ga (arr.take i=(l.take j).filter (λf=>!p f))/\ga (arr.drop j=l.drop j)/\wr.ownsRow B 43 7 (.slice (gY g 0) l.length c) l.length (BQ arr)/\Oth g w wr) (λ_ jv _=>l.length-(intOf jv).toNat);case atStart=>exact⟨k,k+1,l,rfl,by go_num,gd,hk,AB rfl,AB ax.o.symm,AB rfl,O1,Oth.of hb1⟩
  case round=>
   clear ak;obtain⟨i,j,arr,rfl,rfl,aG,hj,T,af,ag,O,V⟩:=hrel;by_cases aa:j<l.length
   .obtain⟨f0,f1,f2,f3,f4,f5,f6⟩:=OD O T.o aa;rw[OC ag.o]at f0 f1 f2 f3 f4 f5 f6;have am:=OB (p:=p) aa;generalize hf:l.getD j default=f at *;have HF:=AB hf;have ao:=AB am;clear hf am;obtain⟨y,ah⟩:=gZ wr (dO f.p f.A f.c) 43;have O5:=Ag O ah;have I:=V.trans (Oth.of ah);obtain⟨g0,g1,g2,g3,g4,g5,g6⟩:=y.c7;have G:=HP.o _ f I;cases hq:p f with
    | true=>
      rw[hq]at G;have HQ:=AB hq;clear hq;(go_wp2_with fail);refine G.mono ?_;rintro e w6 ⟨rfl,hb6⟩;(go_wp2_with fail);go_roundw;case rel=>
       refine⟨i,j+1,arr,rfl,by go_num,gd,aa,T,AB ?_,AB (JN ag.o),Ag O5 hb6,I.trans (Oth.of hb6)⟩;rw[ao.o,HQ.o,af.o];simp
      case measure=>simp[intOf];omega
    | false=>
      rw[hq]at G;have HQ:=AB hq;clear hq;(go_wp2_with fail);refine G.mono ?_;rintro e w6 ⟨rfl,hb6⟩;have O6:=Ag O5 hb6;have y6:=y.keep hb6 y.z;have Z:=I.trans (Oth.of hb6);generalize wr.heap.size=b5 at *;clear f0 f1 f2 f3 f4 f5 f6 g0 g1 g2 g3 g4 g5 g6 G;obtain⟨g0,g1,g2,g3,g4,g5,g6⟩:=y6.c7;obtain⟨f0,f1,f2,f3,f4,f5,f6⟩:=OD O6 T.o (show i<l.length by omega);have r0:=De O6 (i * 7);have r1:=De O6 (i * 7+1);have r2:=De O6 (i * 7+2);have r3:=De O6 (i * 7+3);have r4:=De O6 (i * 7+4);have r5:=De O6 (i * 7+5);have r6:=De O6 (i * 7+6);have ap:=gR O6 Z;have aq:i<l.length:=gd;clear O O5 O6 V I Z y y6 ah hb6;(go_wp2_with fail);go_roundw;case rel=>
       have O7:=Du (Du (Du (Du (Du (Du (Du ap.o.1 (i * 7) (il f.p.id.toNat)) (i * 7+1) (il f.p.par.toNat)) (i * 7+2) (il f.p.seq.toNat)) (i * 7+3) (il f.p.off.toNat)) (i * 7+4) (il f.p.tim.toNat)) (i * 7+5) (im f.p.sch.toNat)) (i * 7+6) (.slice f.A f.p.ms.length f.c);rw[Nj f rfl arr i (by rw[T.o];exact aq)]at O7;refine⟨i+1,j+1,arr.set i f,by go_num,by go_num,gd,aa,AB (by rw[List.length_set];exact T.o),AB ?_,AB ?_,O7,?_⟩
       .rw[ao.o,HQ.o,<-af.o,Cn,List.take_set_of_le (AD _)];have:i<arr.length:=by rw[T.o];exact aq
        simp[this]
       .rw[List.drop_set_of_lt gd];exact JN ag.o
       exact((((((ap.o.2.trans (EE _ _ _ _)).trans (EE _ _ _ _)).trans (EE _ _ _ _)).trans (EE _ _ _ _)).trans (EE _ _ _ _)).trans (EE _ _ _ _)).trans (EE _ _ _ _)
      case measure=>simp[intOf];omega
   obtain rfl:j=l.length:=gd;have ar:l.length<=c:=(Ay O).le;have ay:c≠i:=gd;have az:=λW=>I9 Ds (gY g 0) l.length c .i64 (i:Int) i rfl gd ar W;have au:=λW=>Iu Ds (gY g 0) l.length c .i64 (i:Int) i rfl gd ar W;simp only[AE ay,Option.map_some,DF,BL]at az au;have aH:=λW=>Ev Ds (gY g 0) l.length c .i64 (i:Int) i rfl gd W;have aE:=λW=>EN Ds (gY g 0) l.length c .i64 (i:Int) i rfl gd W;have av:i * 7+(l.length-i) * 7=l.length * 7:=gd;obtain⟨L,aB⟩:=UD wr g (i * 7) (l.length-i) (c-i) gd (λt ht=>Nw O gd) (λt _=>De O _);have HO:=gR O V;clear O V av;go_wp2_with (simp only[aB])
   go_ret;obtain⟨aI,h',aC,aD⟩:=Kr L wr (BQ arr) (i * 7) HO.o.1;have aw:l.filter (λf=>!p f)=arr.take i:=by have:=af.o;rw[E8]at this;exact this.symm
   have ab:(arr.take i).length=i:=by rw[BN,T.o];omega
   refine⟨arr.take i,aw.symm,?_,?_,HO.o.2.trans aD⟩
   .rw[ab];rfl
   rw[ab];have:=Nv h' (i:=i) gd;rw[aC _ (AD _),Nx]at this;exact this
 rw[ae];have HE:=AB (Nz ae);clear ae;go_wp2_with fail
 go_ret;exact⟨l,HE.o.symm,rfl,O1,Oth.of hb1⟩
theorem UH (w sA sc ss nA nc ns cur)(hT:TabR w w.heap.size sA sc ss nA nc ns)(h1:ss.length<=1000000)(h2:∀s∈ss,s.fs.length<=1000000)(h3:ns.length<=1000000)(h4:∀s∈ns,s.p.ms.length<=1000000)(ids iA ic)(hri:Rd w w.heap.size 1 iA ids.length ic (CY ids))(hi:ids.length<=1000000)(hgood:Df (ns.map dL) cur ids=0):
 Calls prog 39 #[.agg (dP sA ss.length sc nA ns.length nc cur.toNat),.slice iA ids.length ic] w (DT w 0 (ss.map dK) ((ns.map dL).filter λs=>!DU ids s.id) cur.toNat):=by
 obtain⟨P',ak⟩:=ib (DT w 0 (ss.map dK) ((ns.map dL).filter λs=>!DU ids s.id) cur.toNat);rw[<-ak];have HP:=AB ak;have HG:=AB hgood;clear ak hgood;go_enter func39,ntmps39;go_wp2_with fail
 obtain⟨x1,am⟩:=gZ w (dP sA ss.length sc nA ns.length nc cur.toNat) 39;have aB:(w.alloc (.cells (dP sA ss.length sc nA ns.length nc cur.toNat) 39)).heap.size=w.heap.size+1:=gj;generalize w.alloc _=w1 at *;obtain⟨x2,ao⟩:=gZ w1 #[.slice iA ids.length ic] 54;have aC:(w1.alloc (.cells #[.slice iA ids.length ic] 54)).heap.size=w1.heap.size+1:=gj;have ap:=x1.keep ao x1.z;have aq:=AM am am.size ao;generalize w1.alloc _=w2 at *;obtain⟨x3,aa⟩:=gZ w2 Aa 39;have ar:=ap.keep aa ap.z;have O:=x2.keep aa x2.z;have ab:=AM aq aq.size aa;generalize w2.alloc _=w3 at *;have aO:=hT.later ab;have af:=(hri.below ab).more ab.size;rw[<-aB,<-aC];have aW:w.heap.size<w1.heap.size:=gd;have aX:w1.heap.size<w2.heap.size:=gd;have aY:w2.heap.size<w3.heap.size:=x3.z;generalize ag:w.heap.size=b1 at *;generalize w1.heap.size=b2 at *;generalize w2.heap.size=b3 at *;have H1:=AB ag;obtain⟨c0,c1,c2⟩:=ar.c3;have c3:=O.cell 0 _ rfl;have aP:=AB af;clear aB aC am ao aa x1 ap x2 aq hT hri ag;have aD:b1<w3.heap.size:=gd;go_loopw [13] (λiv wr=>∃k:Nat,k<=ids.length/\iv = io k/\ga (∀j,j<k->FB (ns.map dL) (ids.getD j default)=true)/\Below w3.heap.size w3 wr) (λiv _=>ids.length-(intOf iv).toNat);case atStart=>exact⟨0,AU _,rfl,AB (λj h=>gd),AC _ _⟩
 case round=>
  clear c0 c1 c2 c3;obtain⟨k,hk,rfl,hf,G⟩:=hrel;have X1:=ar.keep G ar.z;have X2:=O.keep G O.z;have X3:=x3.keep G x3.z;obtain⟨c0,c1,c2⟩:=X1.c3;have c3:=X2.cell 0 _ rfl;have au:=aO.later G;have av:=(af.below G).more G.size;have aE:=G.size;have aw:=AB X3;have V:=AB G;clear X1 X2 X3 G;by_cases aF:k<ids.length
  .obtain⟨bi,off,rfl,aZ,fi⟩:=av.u64 aF;generalize hd:ids.getD k default=id at *;have HD:=AB hd;clear hd av;(go_wp2_with fail);refine(JI wr sA sc ss nA nc ns cur.toNat au h3 h4 id).mono ?_;rintro e w4 ⟨A4,c4,rfl,hown4,hb4⟩;have hd:=Nr ns id;generalize decide ((0:Int)<=sIx ns id)=db at hd ⊢;generalize Cg ns (sIx ns id)=q at *;have aQ:=AB (aw.o.keep hb4 (AV x3.z aE));have Z:=AM V.o V.o.size hb4;clear hown4 au c0 c1 c2 c3 fi;have I:=hI w4 (.cells (dO q A4 c4) 43);have z4:b3<w4.heap.size:=aQ.o.z;have ax:=AB (Z.alloc Z.size (.cells (dO q A4 c4) 43));have q3:w3.heap.size<=w4.heap.size:=Z.size;have aG:=AB hd;have a0:=AB Z;clear hd Z I hb4;cases db with
   | false=>
     have h2:=Ns (cur:=cur) aF (by rw[HD.o];exact aG.o.symm);rw[HG.o]at h2;cases h2
   | true=>
     (go_wp2_with fail);go_roundw;case rel=>
      refine⟨k+1,gd,by go_num,AB (λj hj=>?_),ax.o⟩;by_cases e:j=k
      .rw[e,HD.o];exact aG.o.symm
      exact hf.o j gd
     case measure=>simp[intOf];omega
  have ah:ids.all (FB (ns.map dL))=true:=Nt (λj hj=>hf.o j gd);have HI:DU ids cur=false:=by
   have h0:=HG.o;unfold Df at h0;rw[AJ ah]at h0;cases hi:DU ids cur with
   | true=>rw[hi]at h0;cases h0
   | false=>rfl
  clear ah hf;go_wp2_with fail
  refine(Kc wr _ _ _ iA ids av hi cur).mono ?_;unfold DU at HI;rw[HI];clear HI;rintro e w4 ⟨rfl,rfl⟩;go_wp2_with fail
  refine(Kl wr sA sc ss nA nc ns cur.toNat au h1 h2 h3 h4).mono ?_;rintro e w5 ⟨oA,oc,sd,pA',pc',nd,rfl,O5,aH,ay,hb5⟩;have X3:=aw.o.keep hb5 aw.o.z;have X2:=(O.keep V.o O.z).keep hb5 (O.keep V.o O.z).z;have ai:Rd w5 w3.heap.size 1 iA ids.length ic (CY ids):=(aP.o.below V.o).below' hb5 aE;have ax:Below b1 w w5:=AM (ab.trans (V.o.mono gd)) gd hb5;have aI:nd.length=ns.length:=by have:=congrArg List.length ay;simpa using this
  have aR:=AB aI;have aJ:=gR aH ay;clear aI aH ay;have y:=Dv w5 (dP oA sd.length oc pA' nd.length pc' cur.toNat) 39;have I:=hI w5 (.cells (dP oA sd.length oc pA' nd.length pc' cur.toNat) 39);have O6:=O5.keep I;have ad:=X3.keep I X3.z;have az:=X2.keep I X2.z;have z5:wr.heap.size<=w5.heap.size:=hb5.size;have aj:=ai.below' I (show w3.heap.size<=w5.heap.size by omega);have aK:=az.cell 0 _ rfl;have aL:=az.z;have ae:Below b1 w _:=AM ax (show b1<=w5.heap.size by omega) I;have aS:b3<wr.heap.size:=gd;have aD:b1<=wr.heap.size:=gd;have u1:=y.bx.cell 1 _ rfl;have y5:w5.heap.size<(w5.alloc (.cells (dP oA sd.length oc pA' nd.length pc' cur.toNat) 39)).heap.size:=y.bx.z;go_wp2_with fail
  generalize w5.alloc _=w6 at *;have T:∀g,wr.heap.size<=g->JM w6 g 90 #[iq b2 0] (λf=>DU ids f.p.id):=λg hg=>UF w6 g b2 w3.heap.size iA ids.length ic ids aK aL gd aj gd gd hi;have aT:nd.length<=1000000:=by have:=aR.o;omega
  have aM:∀g,pA'=some ⟨g,0,none⟩->wr.heap.size<=g/\g<w5.heap.size:=λg e=>Km (by have:=O5.nown;rw[e]at this;exact this);have aN:ga (Calls prog 89 #[.slice pA' nd.length pc',.func (.func 90) #[] #[iq b2 0]] w6 λe w'=>∃l',l'=nd.filter (λf=>!DU ids f.p.id)/\e = .returned (.slice pA' l'.length pc')/\dN w' wr.heap.size oA oc sd pA' pc' l'/\BoxT w' w5.heap.size (dP oA sd.length oc pA' nd.length pc' cur.toNat).toList 39/\dH w' b3 [ir,ir,il 0]/\Below b1 w w'):=AB (by
   rcases O6.nown.2 with ⟨eN,aU⟩|⟨g,cap,aV,eN,_,_⟩
   .injection eN with e1 e2 e3;subst e1 e3;obtain rfl:nd=[]:=Fm e2;refine(UG w6 90 #[iq b2 0] (λf=>DU ids f.p.id) (λargs w=>enters_of func90 gh rfl args w) (T _ (AD _))).mono ?_;rintro e w8 ⟨rfl,hb8⟩;exact⟨[],rfl,rfl,O6.keep hb8,y.keep hb8,ad.keep hb8 ad.z,AM ae (by have:=ae.size;omega) hb8⟩
   .injection eN with e1 e2 e3;subst e1 e3;obtain⟨g1,g2⟩:=aM g rfl;refine(UE w6 wr.heap.size g pc' nd O6.nown aT 90 #[iq b2 0] (λf=>DU ids f.p.id) (λargs w=>enters_of func90 gh rfl args w) (T g g1)).mono ?_;rintro e w8 ⟨l',hl',rfl,On,hoth⟩;refine⟨l',hl',rfl,⟨JJ O6.sown O6.nown hoth gm,λs hs=>JJ (O6.sin s hs) O6.nown hoth gm,On,λs hs=>JJ (O6.nin s (by rw[hl']at hs;exact(List.mem_filter.1 hs).1)) O6.nown hoth gm⟩,y.oth hoth gd,ad.oth hoth gd,ae.trans (hoth.belowB gd gd)⟩)
  have HZ:=gS aS aD z5;clear T aM O5 O6 y ad az aK aL ae I hb5 aj ai X3 X2;refine aN.o.mono ?_;rintro e w8 ⟨l',hl',rfl,O8,y8,X8,hB8⟩;obtain⟨c0,c1,c2⟩:=y8.bx.c3;have f0:=y8.bx.free 1 gj;have nb:w5.heap.size≠b3:=by have:=HZ.o;omega
  have a1:b3≠w5.heap.size:=by have:=HZ.o;omega
  obtain⟨k0,k1,k2⟩:=X8.c3;obtain⟨q0,q1,q2⟩:=X8.f3;have HL:=AB hl';have HO:=gS O8 y8 X8;clear hl' O8 y8 X8;go_wp2_with fail
  (try simp only[Exit.inBlock,Exit.then]);refine AW (BA (b:=b3) rfl _ _ rfl (HO.o.2.2.else (p:=gX w5.heap.size 1) nb _).set3b) rfl ?_;rw[HP.o];refine⟨oA,oc,sd,pA',pc',l',rfl,?_,aJ.o.1,?_,?_⟩
  .rw[H1.o];exact((HO.o.1.setT HO.o.2.1 1 _).set3b HZ.o.1).base HZ.o.2.1
  .rw[HL.o,<-aJ.o.2,List.filter_map];rfl
  rw[H1.o];exact BV (hB8.setCell (p:=gX w5.heap.size 1) (show b1<=w5.heap.size by have:=HZ.o;omega) _) gd
theorem UN (w id n c A l)(hr:Rd w w.heap.size 4 A n c (AZ l))(hsz:Kw l):
 Calls prog 154 #[.agg #[im id.toNat,.slice A n c]] w (EA w (DK id l)):=by
 obtain rfl:=hr.lenF;obtain⟨bJ,a1⟩:=hsz;have bE:id.toNat<4294967296:=id.toNat_lt;go_enter func154,ntmps154;go_wp2_with fail
 have x1:=Dc w #[im id.toNat,.slice A l.length c] 33;obtain⟨wx,a2⟩:=ib (w.alloc (.cells #[im id.toNat,.slice A l.length c] 33));rw[<-a2]at x1 ⊢;obtain⟨s0,s1⟩:=x1.c2;have zx:w.heap.size<wx.heap.size:=by have:=x1.size;omega
 have a3:=hr.below x1.below;have bk:=x1.below;obtain⟨bx,aM⟩:=ib w.heap.size;rw[<-aM]at s0 s1 zx a3 ⊢;have a4:=AB aM;clear a2 x1 hr aM;have bK:=Var.put_le10 (n:=id.toNat) gd;have bL:=Var.put_le10 (n:=l.length) gd;have bl:(id.toNat:Int) % 18446744073709551616=(id.toNat:Int):=gd;have a5:IntKind.u64.wrap (id.toNat:Int)=(id.toNat:Int):=by rw[BU];omega
 have bm:(l.length:Int) % 18446744073709551616=(l.length:Int):=gd;have a6:IntKind.u64.wrap (l.length:Int)=(l.length:Int):=by rw[BU];omega
 refine II 9 BC gh gh ?_;simp only[Bv,Bw,EL,List.take_zero,List.drop_succ_cons,List.drop_zero];iterate 2 (refine zV ?_ rfl ?_ ?_;rotate_left 1;(·intro w' ad C hC;have q:=(ad.cell (p:=gX bx 0) zx).trans s0;go_simp;(try go_bits);exact hC);simp only[AX,AI,AH])
 refine Cr BC ?_ (λ_ _ h=>by cases h) rfl rfl ?_ ?_;rotate_left 1
 .intro w' ad C hC;have q:=a5;go_simp;try go_bits
  exact hC
 simp only[AX,AI,AH];refine C5 (.has (Kv wx.heap.size (Var.put id.toNat))) (λ_ _ h=>by cases h) rfl rfl (UJ _ _) (λw' ad=>?_) ?_
 .go_simp;exact⟨AC _ _,(Eg (id.toNat:Int) w' gd gd).mono λe bn h=>UK (by rw[BM]at h;exact h) ad.size⟩
 simp only[AX,AI,AH];iterate 3 (refine zV ?_ rfl ?_ ?_;rotate_left 1;(·intro w' ad C hC;have q:=(ad.cell (p:=gX bx 1) zx).trans s1;go_simp;(try go_bits);exact hC);simp only[AX,AI,AH])
 refine Cr BC ?_ (λ_ _ h=>by cases h) rfl rfl ?_ ?_;rotate_left 1
 .intro w' ad C hC;have q:=a6;go_simp;try go_bits
  exact hC
 simp only[AX,AI,AH];refine C5 (.has (F9 (Var.put l.length))) (λ_ _ h=>by cases h) rfl rfl (J6 _) (λw' ad=>?_) ?_
 .go_simp;exact⟨AC _ _,(Eg (l.length:Int) w' gd gd).mono λe bn h=>UL (by rw[BM]at h;exact h)⟩
 simp only[AX,AI,AH];intro wA a7;simp only[C6];intro vo ho vl bo;obtain⟨Al,cl,rfl,hl⟩:=bo;have aD:Below wx.heap.size wx wA:=BY a7;have ho:wA.ownsRow wx.heap.size 5 1 vo (Var.put id.toNat).length (AO (Var.put id.toNat)):=ho;clear a7 bl a5 bm a6;go_wp2_with (at_builtin;refine Aw _ As rfl (.tmp 10) (.tmp 15) rfl wx.heap.size _ _ _ rfl ho wA.heap.size Al _ cl _ rfl hl (Bb _) gd aD.size ?_;intro v2 wB V hg _;have aN:=Au aD (AD _) ho hg aD.size;have bM:=(aN.cell (p:=gX bx 1) zx).trans s1;clear hg)
 have av:wB.ownsRow wx.heap.size 5 1 v2 (Var.put id.toNat++(Var.put l.length++By (l.take 0))).length (AO (Var.put id.toNat++(Var.put l.length++By (l.take 0)))):=by
  simp only[List.take_zero,By,List.flatMap_nil,List.append_nil];rw[AR,CH];exact V
 clear V ho hl aD;go_loopw [3,20] (PR wx id l) (λ_ iv _=>l.length-(intOf iv).toNat);case atStart=>exact⟨0,_,_,rfl,rfl,AU _,av,AB rfl,by simp[By];omega,aN⟩
 case round=>
  clear av aN;obtain⟨k,cur,vb,rfl,rfl,hk,V,aw,bF,ar⟩:=hrel;have bp:=(ar.cell (p:=gX bx 1) zx).trans s1;by_cases ah:k<l.length
  .obtain⟨b0,off,rfl,bN,f0,f1,f2,f3⟩:=(a3.below' ar (Ad zx)).fd ah;have aO:=a1 k ah;obtain⟨f,hf⟩:=ib (l.getD k default);rw[<-hf]at f0 f1 f2 f3 aO;have HF:=AB hf;have HN:=AB aO;have bG:=f.id.toNat_lt;have bH:=f.kind.toNat_lt;have q1:=Var.put_le10 (n:=f.id.toNat) gd;have q2:=Var.put_le10 (n:=f.name.size) gd;have q3:=Var.put_le10 (n:=f.kind.toNat) gd;have q4:f.name.data.toList.length=f.name.size:=gj;have m1:(f.name.size:Int) % 18446744073709551616=(f.name.size:Int):=gd;have HQ:=gT q1 q2 q3 q4;clear hf q1 q2 q3 q4 aO;(go_wp2_with fail);have hT:=heap_alloc_new wr (.cells #[im f.id.toNat,.string f.name,ip f.kind.toNat,.bool f.need] 89);have ax:=V.alloc (.cells #[im f.id.toNat,.string f.name,ip f.kind.toNat,.bool f.need] 89);have aP:=ar.alloc ar.size (.cells #[im f.id.toNat,.string f.name,ip f.kind.toNat,.bool f.need] 89);generalize wr.alloc _=w1 at *;generalize wr.heap.size=bf at *;clear f0 f1 f2 f3 V ar bp;have bq:=cell_of_row w1 bf 0 _ _ _ hT;simp at bq;(go_wp2_with fail);refine(Eg (f.id.toNat:Int) w1 gd gd).mono ?_;rintro e w2 ⟨vp,rfl,hop,hbp⟩;rw[BM]at hop;obtain⟨pA,pc,rfl,au⟩:=Rd.of_own hop;have bu:=Hi hT hbp;have ai:=Ag ax hbp;have aE:=AM aP aP.size hbp;have bO:=aE.size;clear hop hbp ax aP hT;obtain⟨ti,bv,a8,a9,ba⟩:=DZ As.inf;go_wp2_with (at_builtin;refine Aw _ As rfl (.tmp 24) (.tmp 28) rfl wx.heap.size _ _ _ rfl ai w2.heap.size pA _ pc _ rfl au (Bb _) (by have:=HQ.o.1;omega) aE.size ?_;intro v3 w3 ho hg _;have aQ:=Au aE (AD _) ai hg aE.size;have aR:=FC bu ai hg gm;obtain⟨c1,aF⟩:∃c,c=cur++Var.put f.id.toNat:=⟨_,rfl⟩;have ay:w3.ownsRow wx.heap.size 5 1 v3 c1.length (AO c1):=(by rw[aF,AR,CH];exact ho);have aJ:c1.length=cur.length+(Var.put f.id.toNat).length:=(by rw[aF,AR]);have be:=AB aF;have I:=AB aJ;have bw:=cell_of_row w3 bf 1 _ _ _ aR;simp at bw;clear ho hg aF aJ)
   refine(Eg (f.name.size:Int) w3 gd (by have:=HN.o;omega)).mono ?_;rintro e w4 ⟨vp,rfl,hop,hbp⟩;rw[BM]at hop;obtain⟨pA,pc,rfl,au⟩:=Rd.of_own hop;have bB:=Hi aR hbp;have aj:=Ag ay hbp;have aG:=AM aQ aQ.size hbp;have bP:=aG.size;clear hop hbp ay aQ aR;go_wp2_with (first|(at_builtin;refine Aw _ As rfl (.tmp 30) (.tmp 35) rfl wx.heap.size _ _ _ rfl aj w4.heap.size pA _ pc _ rfl au (Bb _) (by have:=HQ.o;have:=HN.o;have:=I.o;omega) aG.size ?_;intro v5 w5 ho hg _;have aS:=Au aG (AD _) aj hg aG.size;have bg:=FC bB aj hg gm;obtain⟨c2,aH⟩:∃c,c=c1++Var.put f.name.size:=⟨_,rfl⟩;have ak:w5.ownsRow wx.heap.size 5 1 v5 c2.length (AO c2):=(by rw[aH,AR,CH];exact ho);have aK:c2.length=c1.length+(Var.put f.name.size).length:=(by rw[aH,AR]);have bh:=AB aH;have T:=AB aK;have bC:=cell_of_row w5 bf 1 _ _ _ bg;simp at bC;clear ho hg aH aK)|(at_builtin;refine Go.Lib.wpList_append_own_string _ rfl (.tmp 37) (.tmp 39) 55 9 rfl wx.heap.size 5 ti underlying55 underlying9 bv a8 a9 ba _ _ _ rfl ak f.name rfl (by have:=T.o;have:=HQ.o;have:=HN.o;have:=I.o;unfold maxLen;omega) (by have:=T.o;have:=HQ.o;have:=HN.o;have:=I.o;omega) aS.size ?_;intro v6 w6 ho hg _;have aT:=Au aS (AD _) ak hg aS.size;have aU:=FC bg ak hg gm;obtain⟨c3,aI⟩:∃c,c=c2++f.name.data.toList:=⟨_,rfl⟩;have az:w6.ownsRow wx.heap.size 5 1 v6 c3.length (AO c3):=(by rw[aI,AR,CH];exact ho);have aL:c3.length=c2.length+f.name.size:=(by rw[aI,AR,HQ.o.2.2.2]);have bi:=AB aI;have Z:=AB aL;have bD:=cell_of_row w6 bf 2 _ _ _ aU;simp at bD;clear ho hg aI aL))
   refine(Eg (f.kind.toNat:Int) w6 gd gd).mono ?_;rintro e w7 ⟨vp,rfl,hop,hbp⟩;rw[BM]at hop;obtain⟨pA,pc,rfl,au⟩:=Rd.of_own hop;have aV:=Hi aU hbp;have O:=Ag az hbp;have am:=AM aT aT.size hbp;have bQ:=am.size;clear hop hbp az aT aU;obtain⟨nd,aW⟩:=ib f.need;rw[<-aW]at aV;have bj:=AB aW;clear aW;cases nd with
   | true=>
     go_wp2_with (first|(at_builtin;refine Aw _ As rfl (.tmp 41) (.tmp 45) rfl wx.heap.size _ _ _ rfl O w7.heap.size pA _ pc _ rfl au (Bb _) (by have:=HQ.o;have:=HN.o;have:=I.o;have:=T.o;have:=Z.o;omega) am.size ?_;intro v8 w8 ho hg _;have aa:=Au am (AD _) O hg am.size;have aX:=FC aV O hg gm;obtain⟨c4,ab⟩:∃c,c=c3++Var.put f.kind.toNat:=⟨_,rfl⟩;have ao:w8.ownsRow wx.heap.size 5 1 v8 c4.length (AO c4):=(by rw[ab,AR,CH];exact ho);have ae:c4.length=c3.length+(Var.put f.kind.toNat).length:=(by rw[ab,AR]);have aY:=AB ab;have af:=AB ae;have aZ:=cell_of_row w8 bf 3 _ _ _ aX;simp at aZ;clear ho hg ab ae)|(at_builtin;have G:=ao.alloc (.cells #[ip 1] 5);have ag:Rd (w8.alloc (.cells #[ip 1] 5)) (w8.heap.size+1) 1 (gY w8.heap.size 0) 1 1 (AO [if true then 1 else 0]):=Rd.lit w8 5 #[ip 1] (n:=1) (sz:=1) rfl gm;refine Aw _ As rfl (.tmp 49) (.tmp 51) rfl wx.heap.size _ _ _ rfl G (w8.heap.size+1) _ 1 1 _ rfl ag (Bb _) (by have:=HQ.o;have:=HN.o;have:=I.o;have:=T.o;have:=Z.o;have:=af.o;omega) (by simp;have:=aa.size;omega) ?_;intro v9 w9 ho hg _;have aB:=aa.alloc aa.size (.cells #[ip 1] 5);have a0:=Au aB (AD _) G hg (by simp;have:=aa.size;omega);obtain⟨c5,ap⟩:∃c,c=c4++[if true then 1 else 0]:=⟨_,rfl⟩;have aq:w9.ownsRow wx.heap.size 5 1 v9 c5.length (AO c5):=(by rw[ap,AR,CH];exact ho);have aC:=AB ap;clear ho hg ap ag G aB))
     go_roundw;case rel=>
      refine⟨k+1,c5,v9,rfl,by go_num,gd,aq,AB (JP ah aw.o HF.o be.o bh.o bi.o aY.o (by rw[<-bj.o];exact aC.o)),?_,a0⟩;have:=I.o;have:=T.o;have:=Z.o;have:=af.o;have:=HQ.o;have:=HN.o;rw[aC.o,AR];simp only[Bg,List.length_nil];omega
     case measure=>exact Co k _ ah
   | false=>
     go_wp2_with (first|(at_builtin;refine Aw _ As rfl (.tmp 41) (.tmp 45) rfl wx.heap.size _ _ _ rfl O w7.heap.size pA _ pc _ rfl au (Bb _) (by have:=HQ.o;have:=HN.o;have:=I.o;have:=T.o;have:=Z.o;omega) am.size ?_;intro v8 w8 ho hg _;have aa:=Au am (AD _) O hg am.size;have aX:=FC aV O hg gm;obtain⟨c4,ab⟩:∃c,c=c3++Var.put f.kind.toNat:=⟨_,rfl⟩;have ao:w8.ownsRow wx.heap.size 5 1 v8 c4.length (AO c4):=(by rw[ab,AR,CH];exact ho);have ae:c4.length=c3.length+(Var.put f.kind.toNat).length:=(by rw[ab,AR]);have aY:=AB ab;have af:=AB ae;have aZ:=cell_of_row w8 bf 3 _ _ _ aX;simp at aZ;clear ho hg ab ae)|(at_builtin;have G:=ao.alloc (.cells #[ip 0] 5);have ag:Rd (w8.alloc (.cells #[ip 0] 5)) (w8.heap.size+1) 1 (gY w8.heap.size 0) 1 1 (AO [if false then 1 else 0]):=Rd.lit w8 5 #[ip 0] (n:=1) (sz:=1) rfl gm;refine Aw _ As rfl (.tmp 49) (.tmp 51) rfl wx.heap.size _ _ _ rfl G (w8.heap.size+1) _ 1 1 _ rfl ag (Bb _) (by have:=HQ.o;have:=HN.o;have:=I.o;have:=T.o;have:=Z.o;have:=af.o;omega) (by simp;have:=aa.size;omega) ?_;intro v9 w9 ho hg _;have aB:=aa.alloc aa.size (.cells #[ip 0] 5);have a0:=Au aB (AD _) G hg (by simp;have:=aa.size;omega);obtain⟨c5,ap⟩:∃c,c=c4++[if false then 1 else 0]:=⟨_,rfl⟩;have aq:w9.ownsRow wx.heap.size 5 1 v9 c5.length (AO c5):=(by rw[ap,AR,CH];exact ho);have aC:=AB ap;clear ho hg ap ag G aB))
     go_roundw;case rel=>
      refine⟨k+1,c5,v9,rfl,by go_num,gd,aq,AB (JP ah aw.o HF.o be.o bh.o bi.o aY.o (by rw[<-bj.o];exact aC.o)),?_,a0⟩;have:=I.o;have:=T.o;have:=Z.o;have:=af.o;have:=HQ.o;have:=HN.o;rw[aC.o,AR];simp only[Bg,List.length_nil];omega
     case measure=>exact Co k _ ah
  have bI:¬k<l.length:=ah;go_wp2_with fail
  go_ret;refine⟨_,rfl,?_,bk.trans (ar.mono (Ad (by have:=zx;rw[a4.o]at this;exact this)))⟩;have hc:=aw.o;rw[show k=l.length by omega,E8]at hc;have e1:DK id l=cur:=by rw[hc];rfl
  rw[e1];exact B4 V (Ad (by have:=zx;rw[a4.o]at this;exact this))
theorem Ky (w B n c m d A A' la lb)(ha:Rd w B 1 A n c (AO la))(hb:Rd w B 1 A' m d (AO lb))(hB:B<=w.heap.size):
 Calls prog 112 #[.slice A n c,.slice A' m d] w (FQ w (.bool (la==lb))):=by
 obtain rfl:n=la.length:=by have:=ha.len;rw[Bt]at this;omega
 obtain rfl:m=lb.length:=by have:=hb.len;rw[Bt]at this;omega
 have ah:la.length<=9223372036854775807:=by have h1:=ha.le;have h2:=ha.cap;unfold maxLen at h2;omega
 by_cases O:la.length=lb.length
 .have t1:((la.length:Int)==(lb.length:Int))=true:=gt;have ai:((la.length:Int) != (lb.length:Int))=false:=gt;have HL:=AB O;clear O;go_enter func112,ntmps112;go_wp2_with fail
  go_loopw [13] (λiv wr=>∃k:Nat,k<=la.length/\iv = io k/\ga (la.take k=lb.take k)/\Below w.heap.size w wr) (λiv _=>la.length-(intOf iv).toNat);case atStart=>exact⟨0,AU _,rfl,AB rfl,AC _ _⟩
  case round=>
   obtain⟨k,hk,rfl,V,G⟩:=hrel;by_cases ad:k<la.length
   .have Z:k<lb.length:=by have:=HL.o;omega
    obtain⟨b1,o1,rfl,q1,c1⟩:=ha.cellAt (k:=k) (by rw[Bt];exact ad);obtain⟨b2,o2,rfl,q2,c2⟩:=hb.cellAt (k:=k) (by rw[Bt];exact Z);obtain⟨x,hx⟩:∃x:UInt8,x=la[k]:=⟨_,rfl⟩;obtain⟨y,hy⟩:∃y:UInt8,y=lb[k]:=⟨_,rfl⟩;have ae:wr.cell? (gX b1 (o1+k))=some (ip x.toNat):=(G.cell (p:=gX b1 (o1+k)) (AV q1 hB)).trans (by rw[c1,hx];simp[AO,DG]);have af:wr.cell? (gX b2 (o2+k))=some (ip y.toNat):=(G.cell (p:=gX b2 (o2+k)) (AV q2 hB)).trans (by rw[c2,hy];simp[AO,DG]);have z1:b1<wr.heap.size:=AV (AV q1 hB) G.size;have z2:b2<wr.heap.size:=AV (AV q2 hB) G.size;have HX:=AB hx;have HY:=AB hy;clear c1 c2 hx hy;by_cases T:x=y
    .have t2:((x.toNat:Int) != (y.toNat:Int))=false:=by rw[T];simp
     have aa:=AB (show la.take (k+1)=lb.take (k+1)by rw[List.take_succ_eq_append_getElem ad,List.take_succ_eq_append_getElem Z,V.o,<-HX.o,<-HY.o,T]);clear T;(go_wp2_with fail);refine DR BC gh gh ?_;simp only[Bv,Bw];iterate 9 (refine zV ?_ rfl ?_ ?_;rotate_left 1;(·intro w' I C hC;have q0:=(I.cell (p:=gX b1 (o1+k)) z1).trans ae;have q1:=(I.cell (p:=gX b2 (o2+k)) z2).trans af;go_simp;(try go_bits);exact hC);simp only[AX,AI,AH])
     intro w' I;simp only[C6];go_wp2;go_roundw;case rel=>exact⟨k+1,gd,by go_num,aa,G.trans ((BY I).mono G.size)⟩
     case measure=>simp[intOf];omega
    have t2:((x.toNat:Int) != (y.toNat:Int))=true:=by simp;intro h;exact T (UInt8.toNat_inj.1 gd)
    have ab:=AB (show(la==lb)=false from AQ.2 λh=>T (by rw[HX.o,HY.o];simp only[h]));clear T;(go_wp2_with fail);refine DR BC gh gh ?_;simp only[Bv,Bw];iterate 9 (refine zV ?_ rfl ?_ ?_;rotate_left 1;(·intro w' I C hC;have q0:=(I.cell (p:=gX b1 (o1+k)) z1).trans ae;have q1:=(I.cell (p:=gX b2 (o2+k)) z2).trans af;go_simp;(try go_bits);exact hC);simp only[AX,AI,AH])
    intro w' I;simp only[C6];go_wp2;go_ret;exact⟨by rw[ab.o];rfl,G.trans ((BY I).mono G.size)⟩
   have ag:=AB (show(la==lb)=true from Ap.2 (by have h1:=V.o;have h2:=HL.o;rw[CF gd,CF gd]at h1;exact h1));(go_wp2_with fail);go_ret;exact⟨by rw[ag.o];rfl,G⟩
 have t1:((la.length:Int) != (lb.length:Int))=true:=gt;have ab:=AB (show(la==lb)=false from AQ.2 λh=>O (by rw[h]));clear O;go_enter func112,ntmps112;go_wp2_with fail
 go_ret;exact⟨by rw[ab.o];rfl,AC _ _⟩
theorem OO (w n c A l)(hr:Rd w w.heap.size 1 A n c (AO l))(ht:Dx w)(hl:l.length<=1000000):
 Calls prog 108 #[.slice A n c] w (OM w l):=by
 obtain rfl:n=l.length:=by have:=hr.len;rw[Bt]at this;omega
 have HT:=AB ht;have aa:=ht.pos;clear ht;by_cases h4:4<=l.length
 .obtain⟨m,hm⟩:=ib (l.length-4);have ab:(l.length:Int)-4=(m:Int):=gd;have af:=hr.le;have ag:=EN As A l.length c .i64 (m:Int) m rfl gd;have ad:Rd w w.heap.size 1 A m c (AO (l.take m)):=by have:=hr.pre (hi:=m) gd;simpa [AO,List.map_take]using this
  have ae:(l.take m).length=m:=by rw[BN];omega
  have HM:=AB hm;have ah:m<=1000000:=gd;clear hm;go_enter func108,ntmps108;go_wp2_with fail
  refine(JQ w _ _ c A _ ad (Bb _) gd (AD _)).mono ?_;rintro e w1 ⟨v1,rfl,hown1,hb1⟩;obtain⟨A1,c1,rfl,T⟩:=Rd.of_own hown1;clear ab;go_wp2_with fail
  refine(Kx w1 _ c1 A1 _ T (HT.o.below hb1 aa) gd).mono ?_;rintro e w2 ⟨v2,rfl,hown2,hb2⟩;have G:=AM hb1 hb1.size hb2;obtain⟨A2,c2,rfl,V⟩:=Rd.of_own hown2;go_wp2_with fail
  refine(Ky w2 w2.heap.size _ _ _ _ A2 A _ l V ((hr.below G).more G.size) (AD _)).mono ?_;rintro e w3 ⟨rfl,hb3⟩;have O:=AM G G.size hb3;have Z:=Ag (Ag hown1 hb2) hb3;by_cases I:DL (l.take m)=l
  .have t1:(DL (l.take m)==l)=true:=Ap.2 I;have ho:BT l=some (l.take m):=by unfold BT;rw[<-HM.o,AJ ⟨h4,I⟩]
   have HO:=AB ho;rw[t1];clear I ho t1 hown1 hown2 T V;(go_wp2_with fail);go_ret2;exact .inl ⟨_,_,HO.o,rfl,by rw[ae];exact Z,O⟩
  have t1:(DL (l.take m)==l)=false:=AQ.2 I;have ho:BT l=none:=by unfold BT;rw[<-HM.o,AE (λh=>I h.2)]
  have HO:=AB ho;rw[t1];clear I ho t1 hown1 hown2 T V;go_wp2_with fail
  go_ret2;exact .inr ⟨HO.o,rfl,O⟩
 have ho:BT l=none:=by unfold BT;rw[AE (λh=>h4 h.1)]
 have HO:=AB ho;have t0:decide ((l.length:Int)<4)=true:=gt;clear h4 ho;go_enter func108,ntmps108;go_wp2_with fail
 go_ret2;exact .inr ⟨HO.o,rfl,AC _ _⟩
