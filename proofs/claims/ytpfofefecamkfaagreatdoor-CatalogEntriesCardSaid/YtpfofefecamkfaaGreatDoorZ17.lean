/- For CatalogEntries. -/
import Derived.Test.YtpfofefecamkfaaGreatDoorZ7
import Derived.Test.YtpfofefecamkfaaGreatDoorZ15
namespace Go.Proofs.YtpfofefecamkfaaGreatDoor
open Go.RowKit Proofs.Tryz
set_option maxRecDepth 100000
set_option maxHeartbeats 16000000
set_option linter.all false
theorem ZK (w s)(hmax:s.size<=1000000):
 Calls prog 142 #[.string s] w λe w'=>∃lv av,e = .returned (.tuple #[lv,av,.bool (Fn s)])/\w'.ownsRow w.heap.size 3 1 lv (Cb s).length (Ik s (Cb s)) /\
  w'.ownsRow w.heap.size 3 1 av (Cb s).length (ME (Cb s))/\Below w.heap.size w w':=by
 go_enter func142,ntmps142;go_wp2_with fail
 go_loopw [5,6,7,8] (λlv av cv pv wr=>∃(pos b:Nat) (l:List Nat),pv = io pos/\cv = .bool (l.all (Dk s))/\ga (Cb s=l++CU s b pos)/\s.size<=pos+b /\
  wr.ownsRow w.heap.size 3 1 lv l.length (Ik s l)/\wr.ownsRow w.heap.size 3 1 av l.length (ME l)/\Ed lv av/\Below w.heap.size w wr) (λ_ _ _ pv _=>s.size-(intOf pv).toNat)
 case atStart=>exact⟨0,s.size,[],rfl,rfl,AB rfl,gd,Av _ _ _ _,Av _ _ _ _,Ed.none_left _,AC _ _⟩
 case round=>
  obtain⟨pos,b,l,rfl,rfl,hp,hb,hl,ha,O,G⟩:=hrel;by_cases T:pos<s.size
  .have t1:=gG pos s.size;have:pos<=s.size:=Ad T;obtain⟨b',ah,aq⟩:=Rb s b pos T hb;have V:=hp.o;rw[ah]at V;have ar:=AB (show Cb s=(l++[pos])++CU s b' (pos+wid s pos)by rw[V];simp);have:l.length<=1000000:=by
    have h1:=congrArg List.length V;have:=MD s s.size 0;unfold Cb at h1;simp at h1;omega
   have ai:=F8 s pos T;have au:=AB ai;have:wid s pos<=4:=ZJ s pos;clear V ah hp hb ai;have aj:0<(s.extract pos s.size).size:=by rw[Lib.tail_size];omega
   have ak:(s.extract pos s.size).size<9223372036854775807:=by rw[Lib.tail_size];omega
   have aw:=AB aj;have ax:=AB ak;clear aj ak;(go_wp2_with fail);refine(Sz wr _ aw.o ax.o).mono ?_;rintro e w1 ⟨he,rfl⟩;unfold Bd at he;rw[Rf,Rg,ZI]at he;subst he;have:=G.size;generalize am:l.all (Dk s)=cc;have ay:=AB am;generalize ao:Dk s pos=co;have az:=AB ao;clear am ao;go_wp2_with (first
    | (at_builtin;(refine Aw _ Ra rfl (.tmp 24) (.tmp 26) rfl w.heap.size _ _ _ rfl (hl.alloc _) (wr.heap.size+1) _ 1 1 _ rfl (Rd.lit wr 3 _ rfl gm) (Iv _ _) gd gt ?_;intro v1 w1 ad ae aa;have af:=O.kept (ha.alloc _) ae;have I:=O.app (ha.alloc _) aa;have Z:=Au (G.alloc G.size _) (AD _) (hl.alloc _) ae gt;have:=Z.size;clear aa ae hl ha O G))
    | (at_builtin;(refine Aw _ Ra rfl (.tmp 28) (.tmp 30) rfl w.heap.size _ _ _ rfl (af.alloc _) (w1.heap.size+1) _ 1 1 _ rfl (Rd.lit w1 3 _ rfl gm) (Iv _ _) gd gt ?_;intro v2 w2 aB ag ab;have aC:=I.symm.kept (ad.alloc _) ag;have ap:=(I.symm.app (ad.alloc _) ab).symm;have aD:=Au (Z.alloc Z.size _) (AD _) (af.alloc _) ag gt;clear ab ag ad af I Z)))
   all_goals
    (go_roundw
     case rel=>
      refine⟨pos+wid s pos,b',l++[pos],by go_num,?_,ar,aq,?_,?_,ap,aD⟩
      .rw[List.all_append,ay.o,List.all_cons,List.all_nil,az.o];simp[*]
      .simpa [Ik,Ij]using aC
      simpa [ME,Ij]using aB
     case measure=>have:=au.o;simp[intOf];omega)
  have t1:=gH pos s.size;have hq:=hp.o;rw[ZG s b pos T,List.append_nil]at hq;subst hq;rw[ZH];have HL:=AB hl;have HA:=AB ha;have HW:=AB G;clear hl ha O G hb;go_wp2_with fail
  go_ret3;exact⟨_,_,rfl,HL.o,HA.o,HW.o⟩
theorem MF (w s):Calls prog 71 #[.string s] w λe w'=>e = .returned (.bool (named s))/\Below w.heap.size w w':=by
 by_cases h1:s.size<1
 .have hn:named s=false:=by unfold named;rw[AG gd];rfl
  rw[hn];have t1:=gG s.size 1;clear h1;go_enter func71,ntmps71;go_wp2_with fail
  go_ret;exact⟨rfl,AC _ _⟩
 have t1:=gH s.size 1;by_cases h2:16<s.size
 .have hn:named s=false:=by unfold named;rw[AG (show ¬s.size<=16 by omega)];simp
  rw[hn];have t2:=gG 16 s.size;clear h1 h2;go_enter func71,ntmps71;go_wp2_with fail
  go_ret;exact⟨rfl,AC _ _⟩
 have t2:=gH 16 s.size;have hn:named s=(Fo s&&Fn s):=by unfold named;rw[AF (show 1<=s.size by omega),AF (show s.size<=16 by omega),Bool.and_comm (Fo s)];rfl
 rw[hn];have:s.size<=16:=gd;have:=ZN s;clear h1 h2 hn;go_enter func71,ntmps71;go_wp2_with fail
 refine(ZK w s gd).mono ?_;rintro e w1 ⟨lv,av,rfl,hl,_,hb1⟩;obtain⟨A,c,rfl,hr⟩:=Rd.of_own hl;generalize hn:(Cb s).length=n at *;clear hl;go_wp2_with fail
 go_loopw [6,7,8,9] (λiv _ _ _ wr=>∃k:Nat,k<=n/\iv = io k/\ga (∀j (h:j<(Cb s).length),j<k->FR s (Cb s)[j]=true)/\w1=wr) (λiv _ _ _ _=>n-(intOf iv).toNat);case atStart=>exact⟨0,AU _,rfl,AB (λj _ h=>gd),rfl⟩
 case round=>
  obtain⟨k,hk,rfl,hf,rfl⟩:=hrel;by_cases aa:k<n
  .have G:k<(Cb s).length:=gd;obtain⟨b,off,rfl,ae,I⟩:=hr.cellAt (k:=k) (by simpa [Ik]using G);have hz:=ZM s k G;obtain⟨p,hp⟩:=ib ((Cb s)[k]);have:w1.cell? (gX b (off+k))=some (io (sgn s p:Int)):=by rw[I,hp];simp[Ik,Ij]
   rw[<-hp]at hz;have HP:=AB hp;clear I hp;generalize T:sgn s p=ch at *;have V:=AB T;have HZ:=AB hz;have:=AB G;clear T hz;go_wp2_with fail
   all_goals first
    | (go_roundw
       case rel=>
        have hq:FR s p=true:=by
         have hz:=HZ.o;rw[Iw s p ch V.o];apply AF;try simp only[Bool.not_eq_eq_eq_not,Bool.not_true,Bool.not_false,Ap,AQ,ne_eq,BI,decide_eq_false_iff_not]at *
         omega
        refine⟨k+1,gd,by go_num,AB (λj hj h=>?_),trivial⟩;by_cases e:j=k
        .subst e;rw[<-HP.o];exact hq
        exact hf.o j hj gd
       case measure=>exact Co k n aa)
    | (go_ret
       have hq:FR s p=false:=by
        have hz:=HZ.o;rw[Iw s p ch V.o];apply AG;try simp only[Bool.not_eq_eq_eq_not,Bool.not_true,AQ,ne_eq,decide_eq_false_iff_not]at *
        omega
       have O:Fo s=false:=by
        rw[<-Re,List.all_eq_false];exact⟨(Cb s)[k]'G,List.getElem_mem G,by rw[<-HP.o,hq];simp⟩
       exact⟨by rw[O];rfl,hb1⟩)
  obtain rfl:k=n:=gd;have O:Fo s=true:=by
   rw[<-Re,Da];intro q hq;obtain⟨j,hj,rfl⟩:=EZ.1 hq;exact hf.o j hj gd
  have HF:=AB O;clear O;go_wp2_with fail
  go_ret;exact⟨by rw[HF.o,CV];rfl,hb1⟩
theorem MG (w id n c A l)(hr:Rd w w.heap.size 4 A n c (AZ l)):
 Calls prog 30 #[.agg (dR id A n c)] w λe w'=>e = .returned (io (check id l:Int))/\Below w.heap.size w w':=by
 obtain rfl:=hr.lenF;have a3:=id.toNat_lt;by_cases h0:id.toNat<1\/l.length<1\/8<l.length
 .have e0:check id l=1:=by unfold check;rw[AJ h0]
  rw[e0];have aX:((id.toNat:Int)==0)=true\/(((id.toNat:Int)==0)=false/\((l.length:Int)==0)=true)\/(((id.toNat:Int)==0)=false/\((l.length:Int)==0)=false/\decide ((8:Int)<(l.length:Int))=true):=by
   by_cases q1:id.toNat=0
   .exact .inl (by rw[q1];rfl)
   have q2:=gL id.toNat 0;by_cases q3:l.length=0
   .exact .inr (.inl ⟨q2,by rw[q3];rfl⟩)
   exact .inr (.inr ⟨q2,by rw[AQ];omega,AF gd⟩)
  clear h0 e0;rcases aX with t1|⟨t1,t2⟩|⟨t1,t2,t3⟩;all_goals
   go_enter func30,ntmps30;(go_wp2_with fail);go_ret;exact⟨rfl,(AC _ _).alloc (AD _) _⟩
 have e0:check id l=Cp l l.length 0:=by unfold check;rw[AE h0]
 rw[e0];have t1:=gL id.toNat 0;have t2:=gL l.length 0;have t3:=gH 8 l.length;have a5:l.length<=8:=gd;clear h0 e0;go_enter func30,ntmps30;go_wp2_with fail
 obtain⟨w1,aj⟩:=ib (w.alloc (.cells (dR id A l.length c) 33));have G:Below w.heap.size w w1:=by rw[aj];exact(AC _ _).alloc (AD _) _
 have ak:w.heap.size<w1.heap.size:=by rw[aj];simp
 have c0:w1.cell? (gX w.heap.size 0)=some (im id.toNat):=by rw[aj];simp
 have c1:w1.cell? (gX w.heap.size 1)=some (.slice A l.length c):=by rw[aj];simp
 have aJ:=(hr.below G).more G.size;rw[<-aj];clear aj;obtain⟨bx,aK⟩:=ib w.heap.size;rw[<-aK]at ak c0 c1 ⊢;have a6:=AB aK;clear aK;go_loopw [3,4] (λiv _ wr=>∃k:Nat,k<=l.length/\iv = io k/\ga (Cp l (l.length-k) k=Cp l l.length 0)/\Below w1.heap.size w1 wr) (λiv _ _=>l.length-(intOf iv).toNat);case atStart=>exact⟨0,AU _,rfl,AB rfl,AC _ _⟩
 case round=>
  obtain⟨k,hk,rfl,hf,au⟩:=hrel;have aL:=(au.cell (p:=gX bx 1) ak).trans c1;have av:=aJ.below au;by_cases O:k<l.length
  .obtain⟨b,off,rfl,hb,f0,f1,f2,f3⟩:=av.fd O;generalize aQ:l.getD k default=f at *;have HF:=AB aQ;clear aQ;(go_wp2_with fail);obtain⟨w2,ab⟩:=ib (wr.alloc (.cells (fDV f) 89));rw[<-ab];have V:Below w1.heap.size w1 w2:=by rw[ab];exact au.alloc au.size _
   have aw:wr.heap.size<w2.heap.size:=by rw[ab];simp
   obtain⟨bf,ag⟩:=ib wr.heap.size;have d0:w2.cell? (gX bf 0)=some (im f.id.toNat):=by rw[ab,ag];simp
   have d1:w2.cell? (gX bf 1)=some (.string f.name):=by rw[ab,ag];simp
   have d2:w2.cell? (gX bf 2)=some (ip f.kind.toNat):=by rw[ab,ag];simp
   have d3:w2.cell? (gX bf 3)=some (.bool f.need):=by rw[ab,ag];simp
   rw[<-ag]at aw ⊢;have aY:=(V.cell (p:=gX bx 0) ak).trans c0;have aL:=(V.cell (p:=gX bx 1) ak).trans c1;have av:=aJ.below V;have aZ:=gR ag ab;clear ag ab f0 f1 f2 f3;have aM:(f.id.toNat=0)\/(f.id.toNat≠0/\∃m ad:Nat,IntKind.i64.wrap ((k:Int)-1)=(m:Int)/\m<l.length/\0<k/\w2.cell? (gX b (off+m * 4))=some (im ad)/\ga (ad=D8 l k)/\f.id.toNat<=ad) \/
    (f.id.toNat≠0/\k=0)\/(f.id.toNat≠0/\∃m ad:Nat,IntKind.i64.wrap ((k:Int)-1)=(m:Int)/\m<l.length/\0<k/\w2.cell? (gX b (off+m * 4))=some (im ad)/\ga (ad=D8 l k)/\¬f.id.toNat<=ad):=by
    by_cases hz:f.id.toNat=0
    .exact .inl hz
    by_cases T:k=0
    .exact .inr (.inr (.inl ⟨hz,T⟩))
    have z4:k-1<l.length:=gd;obtain⟨b',a4,e',a7,p0,p1,p2,p3⟩:=av.fd z4;injection e' with e';injection e' with e1 e2 e3;subst e1 e2;have z3:IntKind.i64.wrap ((k:Int)-1)=((k-1:Nat):Int):=by rw[IntKind.wrap_i64];omega
    have hw:=(ZR l (show 0<k by omega) rfl).symm;by_cases am:f.id.toNat<=(l.getD (k-1) default).id.toNat
    .exact .inr (.inl ⟨hz,_,_,z3,z4,gd,p0,AB hw,am⟩)
    exact .inr (.inr (.inr ⟨hz,_,_,z3,z4,gd,p0,AB hw,am⟩))
   have aR:bx<w2.heap.size:=AV ak V.size;have a0:w1.heap.size<=w2.heap.size:=V.size;have ax:Below w.heap.size w w2:=AM G G.size V;have a1:k<=c:=AS (Ad O) av.le;rcases aM with hz|⟨hz,m,ad,z3,z4,z5,p0,ay,am⟩|⟨hz,T⟩|⟨hz,m,ad,z3,z4,z5,p0,ay,am⟩
   .have z1:((f.id.toNat:Int)==0)=true:=by rw[hz];rfl
    have he:=AB (hf.o.symm.trans (Dp O (J0 HF.o (by rw[hz];exact AU _)) gm));clear hz;go_quiet (fail)
    (go_wp2_with fail);go_ret;exact⟨by rw[he.o];rfl,CO ax _⟩
   .have z1:=gL f.id.toNat 0;have he:=AB (hf.o.symm.trans (Dp O (J0 HF.o (by rw[<-ay.o];exact am)) gm));clear hz;go_quiet (fail)
    (go_wp2_with fail);go_ret;exact⟨by rw[he.o];rfl,CO ax _⟩
   all_goals
    have z1:=gL f.id.toNat 0;have ae:ga (¬f.id.toNat<=D8 l k):=AB (by first|(rw[<-ay.o];exact am)|(rw[T,ZQ];omega));clear hz;go_quiet (fail)
    try clear T
    try clear z5
    obtain⟨w3,af⟩:=ib (w2.drewN nq);rw[<-af];have ao:Below w1.heap.size w1 w3:=by rw[af];exact⟨V.os,V.tape,V.output,V.size,V.block⟩
    have aD:w3.cell? (gX bf 1)=some (.string f.name):=by rw[af];exact d1
    have aS:w3.cell? (gX bf 2)=some (ip f.kind.toNat):=by rw[af];exact d2
    have aT:w3.cell? (gX bf 3)=some (.bool f.need):=by rw[af];exact d3
    have aF:w3.cell? (gX bx 1)=some (.slice (gY b off) l.length c):=by rw[af];exact aL
    have aG:Rd w3 w1.heap.size 4 (gY b off) l.length c (AZ l):=aJ.below ao;have az:bf<w3.heap.size:=by rw[af];exact aw
    clear af d0 d1 d2 d3 aY aL av V aw aR a0 ax aZ;try clear p0
    have aa:bf<w3.drew.heap.size:=az;have aH:bx<w3.drew.heap.size:=AV ak ao.size;have aE:w1.heap.size<=w3.drew.heap.size:=ao.size;(go_wp2_with fail);have aI:∀w',Ext w3.drew w'->Rd w' w1.heap.size 4 (gY b off) k c (AZ (l.take k)):=λw' I=>by
     have:=(aG.keep (w':=w') λp hp=>I.cell (AV hp aE)).pre (hi:=k) (Ad O)
     rwa [J7]at this
    have aU:(l.take k).length<=1000000:=by rw[BN];omega
    obtain⟨hv,Z⟩:=ib (CW (l.take k) f.name);have aN:∀w',Ext w3.drew w'->Calls prog 72 #[.slice (gY b off) k c,.string f.name] w' λe aB=>∃v,e = .returned v/\Ext w' aB/\(Slot.is (.bool hv)).holds v aB:=λw' I=>
     (Rh w' _ k c _ (l.take k) (aI w' I) f.name aU).mono λe aB h=>Db (by rw[h.1,Z]) (h.2▸AC _ _)
    have aV:=AB Z;clear Z aI aU;cases ap:named f.name with
    | false=>
      have he:=AB (hf.o.symm.trans (Dp O (IC HF.o ae.o (by rw[ap];rfl)) gm));refine DR BC gh gh ?_;simp only[Bv,Bw];iterate 2 (refine zV ?_ rfl ?_ ?_;rotate_left 1;(·intro w' I C hC;have q:=(I.cell (p:=gX bf 1) aa).trans aD;go_simp;(try go_bits);exact hC);simp only[AX,AI,AH])
      refine C5 (.is (.bool false)) (λ_ _ h=>by cases h) rfl rfl (Cq _) (λw' I=>?_) ?_
      .go_simp;exact⟨AC _ _,(MF w' f.name).mono λe aB h=>Db (by rw[h.1,ap]) h.2⟩
      simp only[AX,AI,AH];iterate 10 ((first|(refine zS rfl ?_)|(refine zV ?_ rfl ?_ ?_;rotate_left 1;(·intro w' I C hC;go_simp;(try go_bits);exact hC)));simp only[AX,AI,AH])
      intro w4 aq;simp only[C6];(go_wp2_with fail);go_ret;exact⟨by rw[he.o];rfl,(AM G G.size (ao.trans (BY aq |>.mono aE)))⟩
    | true=>
      refine DR BC gh gh ?_;simp only[Bv,Bw];iterate 2 (refine zV ?_ rfl ?_ ?_;rotate_left 1;(·intro w' I C hC;have q:=(I.cell (p:=gX bf 1) aa).trans aD;go_simp;(try go_bits);exact hC);simp only[AX,AI,AH])
      refine C5 (.is (.bool true)) (λ_ _ h=>by cases h) rfl rfl (Cq _) (λw' I=>?_) ?_
      .go_simp;exact⟨AC _ _,(MF w' f.name).mono λe aB h=>Db (by rw[h.1,ap]) h.2⟩
      simp only[AX,AI,AH];iterate 5 (refine zV ?_ rfl ?_ ?_;rotate_left 1;(·intro w' I C hC;have q:=(I.cell (p:=gX bx 1) aH).trans aF;go_simp;(try go_bits);exact hC);simp only[AX,AI,AH])
      refine Cr BC ?_ (λ_ _ h=>by cases h) rfl rfl ?_ ?_;rotate_left 1
      .intro w' I C hC;have q:=EN Ex (gY b off) l.length c .i64 (k:Int) k rfl a1 w';go_simp;try go_bits
       exact hC
      simp only[AX,AI,AH];iterate 2 (refine zV ?_ rfl ?_ ?_;rotate_left 1;(·intro w' I C hC;have q:=(I.cell (p:=gX bf 1) aa).trans aD;go_simp;(try go_bits);exact hC);simp only[AX,AI,AH])
      refine C5 (.is (.bool hv)) (λ_ _ h=>by cases h) rfl rfl (Cq _) (λw' I=>?_) ?_
      .go_simp;exact⟨AC _ _,aN w' I⟩
      simp only[AX,AI,AH];refine Cr BC ?_ (λ_ _ h=>by cases h) rfl rfl ?_ ?_;rotate_left 1
      .intro w' I C hC;go_simp;try go_bits
       exact hC
      simp only[AX,AI,AH];intro w4 aq;simp only[C6];have ah:Below w1.heap.size w1 w4:=ao.trans (BY aq |>.mono aE);have d2:=(aq.cell (p:=gX bf 2) aa).trans aS;have d3:=(aq.cell (p:=gX bf 3) aa).trans aT;clear aD aS aT aF aG az aa aH aE aq ao;have Z:=aV.o.symm;cases hv with
      | true=>
        have he:=AB (hf.o.symm.trans (Dp O (IC HF.o ae.o (by rw[ap,Z];rfl)) gm));(go_wp2_with fail);go_ret;exact⟨by rw[he.o];rfl,AM G G.size ah⟩
      | false=>
        have ar:ga ((!named f.name||CW (l.take k) f.name)=false):=AB (by rw[ap,Z];rfl);clear ap Z;obtain⟨kn,aO⟩:=ib f.kind.toNat;rw[<-aO]at d2;have ai:=AB aO;clear aO;by_cases g1:kn<1\/3<kn
        .have he:=AB (hf.o.symm.trans (Dp O (N3 HF.o ae.o ar.o (by rw[<-ai.o];exact g1)) gm));go_wp2_with fail
         all_goals first
          | (go_ret;exact⟨by rw[he.o];rfl,AM G G.size ah⟩)
          | (exfalso;omega)
        have a2:¬(kn<1\/3<kn):=g1;have s1:=gH kn 1;have s2:=gH 3 kn;have G1:=AB (show ¬(f.kind.toNat<1\/3<f.kind.toNat)by rw[<-ai.o];exact g1);clear g1 a2;generalize aW:f.need=nd at *;have aC:=AB aW;clear aW;by_cases T:k=0
        .cases nd with
         | false=>
           have he:=AB (hf.o.symm.trans (Dp O (Gz HF.o ae.o ar.o G1.o (by rw[aC.o,<-ai.o];simp[T])) gm));have aP:((k:Int)==0)=true:=by rw[T];rfl
           (go_wp2_with fail);go_ret;exact⟨by rw[he.o];rfl,AM G G.size ah⟩
         | true=>
           by_cases g3:kn=2
           .have he:=AB (hf.o.symm.trans (Dp O (Gz HF.o ae.o ar.o G1.o (by rw[aC.o,<-ai.o];simp[T,g3])) gm));have aP:((k:Int)==0)=true:=by rw[T];rfl
            have s3:((kn:Int)==2)=true:=by rw[g3];rfl
            (go_wp2_with fail);go_ret;exact⟨by rw[he.o];rfl,AM G G.size ah⟩
           have he:=AB ((Iz O (J1 HF.o ae.o ar.o G1.o (by rw[aC.o,<-ai.o];simp[T,g3]))).symm.trans hf.o);have aP:((k:Int)==0)=true:=by rw[T];rfl
           have s3:=gL kn 2;(go_wp2_with fail);go_roundw;case rel=>exact⟨k+1,O,by go_num,he,ah⟩
           case measure=>first|exact Co k _ O|(simp[intOf,T];omega)
        have a8:0<k:=gd;have aP:=gL k 0;cases nd with
        | true=>
          have he:=AB (hf.o.symm.trans (Dp O (Gz HF.o ae.o ar.o G1.o (by rw[aC.o,<-ai.o];simp[T])) gm));(go_wp2_with fail);go_ret;exact⟨by rw[he.o];rfl,AM G G.size ah⟩
        | false=>
          have he:=AB ((Iz O (J1 HF.o ae.o ar.o G1.o (by rw[aC.o,<-ai.o];simp[T]))).symm.trans hf.o);(go_wp2_with fail);go_roundw;case rel=>exact⟨k+1,O,by go_num,he,ah⟩
          case measure=>first|exact Co k _ O|(simp[intOf,T];omega)
  obtain rfl:k=l.length:=gd;have he:=hf.o;rw[Nat.sub_self]at he;have HE:=AB he.symm;clear he;go_wp2_with fail
  go_ret;exact⟨by rw[HE.o];rfl,AM G G.size au⟩
theorem Rk (w p q A1 A2 c1 c2)(hr1:Rd w w.heap.size 1 A1 p.ms.length c1 (AY p.ms))(hr2:Rd w w.heap.size 1 A2 q.ms.length c2 (AY q.ms)):
 Calls prog 32 #[.agg (dO p A1 c1),.agg (dO q A2 c2)] w λe w'=>e = .returned (.bool (I4 p q))/\Below w.heap.size w w':=by
 have T:ga (I4 p q=I4 p q):=AB rfl;obtain⟨res,I⟩:=ib (I4 p q);rw[<-I];unfold I4 at I;have HR:=AB I;clear I T;cases h0:(p.id.toNat:Int)==(q.id.toNat:Int)with
 | false=>
   have G:ga (res=false):=AB (by rw[HR.o,h0];rfl);go_enter func32,ntmps32;(go_wp2_with fail);go_ret;exact⟨by rw[G.o];rfl,((AC _ _).alloc (AD _) _).alloc gj _⟩
 | true=>
   cases h1:(p.par.toNat:Int)==(q.par.toNat:Int)with
   | false=>
     have G:ga (res=false):=AB (by rw[HR.o,h0,h1];rfl);go_enter func32,ntmps32;(go_wp2_with fail);go_ret;exact⟨by rw[G.o];rfl,((AC _ _).alloc (AD _) _).alloc gj _⟩
   | true=>
     cases h2:(p.seq.toNat:Int)==(q.seq.toNat:Int)with
     | false=>
       have G:ga (res=false):=AB (by rw[HR.o,h0,h1,h2];rfl);go_enter func32,ntmps32;(go_wp2_with fail);go_ret;exact⟨by rw[G.o];rfl,((AC _ _).alloc (AD _) _).alloc gj _⟩
     | true=>
       cases h3:(p.off.toNat:Int)==(q.off.toNat:Int)with
       | false=>
         have G:ga (res=false):=AB (by rw[HR.o,h0,h1,h2,h3];rfl);go_enter func32,ntmps32;(go_wp2_with fail);go_ret;exact⟨by rw[G.o];rfl,((AC _ _).alloc (AD _) _).alloc gj _⟩
       | true=>
         cases h4:(p.tim.toNat:Int)==(q.tim.toNat:Int)with
         | false=>
           have G:ga (res=false):=AB (by rw[HR.o,h0,h1,h2,h3,h4];rfl);go_enter func32,ntmps32;(go_wp2_with fail);go_ret;exact⟨by rw[G.o];rfl,((AC _ _).alloc (AD _) _).alloc gj _⟩
         | true=>
           cases h5:(p.sch.toNat:Int)==(q.sch.toNat:Int)with
           | false=>
             have G:ga (res=false):=AB (by rw[HR.o,h0,h1,h2,h3,h4,h5];rfl);go_enter func32,ntmps32;(go_wp2_with fail);go_ret;exact⟨by rw[G.o];rfl,((AC _ _).alloc (AD _) _).alloc gj _⟩
           | true=>
             have G:ga (res=Gq p.ms q.ms):=AB (by rw[HR.o,h0,h1,h2,h3,h4,h5];rfl);go_enter func32,ntmps32;(go_wp2_with fail);have V:=hI w (.cells (dO p A1 c1) 43);have Z:w.heap.size<=(w.alloc (.cells (dO p A1 c1) 43)).heap.size:=gj;generalize w.alloc _=w1 at *;have O:=V.alloc Z (.cells (dO q A2 c2) 43);generalize w1.alloc _=w2 at *;refine(Wv w2 w2.heap.size _ c1 _ c2 A1 A2 p.ms q.ms ((hr1.below O).more O.size) ((hr2.below O).more O.size) (AD _)).mono ?_;rintro e w3 ⟨rfl,hb3⟩;rw[<-G.o];clear h0 h1 h2 h3 h4 h5;(go_wp2_with fail);go_ret;exact⟨rfl,AM O O.size hb3⟩
theorem MH (w sA sc ss nA nc ns)(cur:Nat)(hT:TabR w w.heap.size sA sc ss nA nc ns)(hms:∀s∈ns,∀m∈s.p.ms,m.size<=9223372036854775807):
 Calls prog 134 #[.agg #[.slice sA ss.length sc,.slice nA ns.length nc,il cur]] w λe w'=>e = .returned (.bool (B7 (ss.map dK) (ns.map dL) cur))/\Below w.heap.size w w':=by
 obtain⟨R,hR⟩:=ib (B7 (ss.map dK) (ns.map dL) cur);rw[<-hR];have HR:=AB hR;have bB:=AB hms;clear hR hms;have:ss.length<=9223372036854775807:=by have h1:=hT.srow.le;have h2:=hT.srow.cap;unfold maxLen at h2;omega
 have:ns.length<=9223372036854775807:=by have h1:=hT.nrow.le;have h2:=hT.nrow.cap;unfold maxLen at h2;omega
 by_cases g:ss.length=0
 .have HF:ga (R=false):=AB (by rw[HR.o];exact Hh (by simp only[Ae];omega));have y1:=gK ss.length 0;clear g;go_enter func134,ntmps134;go_wp2_with fail
  go_ret;exact⟨by rw[HF.o];rfl,(AC _ _).alloc (AD _) _⟩
 have y1:=gL ss.length 0;have H1:=AB g;clear g;by_cases g:16<ss.length
 .have HF:ga (R=false):=AB (by rw[HR.o];exact Hh (by simp only[Ae];omega));have y2:=gG 16 ss.length;clear g;go_enter func134,ntmps134;go_wp2_with fail
  go_ret;exact⟨by rw[HF.o];rfl,(AC _ _).alloc (AD _) _⟩
 have y2:=gH 16 ss.length;have H2:=AB g;clear g;by_cases g:32<ns.length
 .have HF:ga (R=false):=AB (by rw[HR.o];exact Hh (by simp only[Ae];omega));have y3:=gG 32 ns.length;clear g;go_enter func134,ntmps134;go_wp2_with fail
  go_ret;exact⟨by rw[HF.o];rfl,(AC _ _).alloc (AD _) _⟩
 have y3:=gH 32 ns.length;have H3:=AB g;clear g;have HL:ga (1<=ss.length/\ss.length<=16/\ns.length<=32):=AB (by have:=H1.o;have:=H2.o;have:=H3.o;omega);clear H1 H2 H3;go_enter func134,ntmps134;go_wp2_with fail
 obtain⟨x1,ap⟩:=gZ w #[.slice sA ss.length sc,.slice nA ns.length nc,il cur] 39;generalize w.alloc _=w1 at *;have a5:=hT.later ap;have aq:w.heap.size<w1.heap.size:=x1.z;generalize aS:w.heap.size=b1 at *;have ad:=AB aS;clear y1 y2 y3 aS;go_loopw [3] (λiv wr=>∃k:Nat,iv = io k/\k<=ss.length/\ga (∀j,j<k->sOk (ss.map dK) j=true)/\Below w1.heap.size w1 wr) (λiv _=>ss.length-(intOf iv).toNat);case atStart=>exact⟨0,rfl,AU _,AB (λj h=>gd),AC _ _⟩
 case round=>
  obtain⟨k,rfl,hk,aa,O⟩:=hrel;have X:=x1.keep O x1.z;obtain⟨c0,c1⟩:=X.c2;have Z:=a5.later O;by_cases ae:k<ss.length
  .obtain⟨b,off,rfl,hb,f0,f1⟩:=Z.srow.sl ae;have ay:=Z.s_at ae;have ar:=Gc ss k;generalize hf:ss.getD k default=f at *;have az:=AB ar;have aB:k<(ss.map dK).length:=by rw[Ae];exact ae
   have af:=AB aB;obtain⟨y,G⟩:=gZ wr #[im f.id.toNat,.slice f.A f.fs.length f.c] 33;have X5:=X.keep G X.z;have aC:=Z.later G;have ab:=(ay.below G).more G.size;have au:Below w1.heap.size w1 _:=AM O O.size G;obtain⟨u0,u1⟩:=y.c2;clear hf ar aB;(go_wp2_with fail);generalize wr.alloc _=w5 at *;generalize wr.heap.size=b5 at *;refine(MG w5 f.id _ f.c f.A f.fs ab).mono ?_;rintro e w6 ⟨rfl,V⟩;have X6:=X5.keep V X5.z;have Y6:=y.keep V y.z;have aL:=aC.later V;have aT:=(ab.below V).more V.size;have ai:Below w1.heap.size w1 w6:=AM au au.size V;clear u0 u1 f0 f1 c0 c1 X X5 y Z aC ay ab O au G V;by_cases g:check f.id f.fs=0
   .rw[show((check f.id f.fs:Nat):Int)=0 by rw[g];rfl];have a6:=AB g;clear g;cases k with
    | zero=>
      have aD:=AB (Za (ss:=ss.map dK) (by rw[az.o];exact a6.o));(go_wp2_with fail);go_roundw;case rel=>
       refine⟨1,rfl,gd,AB (λj hj=>?_),ai⟩;obtain rfl:j=0:=gd;exact aD.o
      case measure=>simp[intOf];omega
    | succ k=>
      obtain⟨b',a7,ee,_,f0,f1⟩:=aL.srow.sl (i:=k) gd;obtain⟨rfl,rfl⟩:b=b'/\off=a7:=by injection ee with ee;injection ee with e1 e2;exact⟨e1,e2⟩
      have aU:=aL.s_at (i:=k) gd;have aE:=Gc ss k;generalize hg:ss.getD k default=g at *;have:=AB aE;have a8:sOk (ss.map dK) (k+1)=(decide (check f.id f.fs=0)&&(decide (g.id.toNat<f.id.toNat)&&(decide (g.fs.length<=f.fs.length)&&DS (f.fs.take g.fs.length) g.fs))):=Kn (s:=dK f) (was:=dK g) az.o (by rw[Nk];exact aE);have aM:=AB a8;clear ee hg aE a8;have:k+1<=9223372036854775807:=gd;obtain⟨c0,c1⟩:=X6.c2;obtain⟨yg,G⟩:=gZ w6 #[im g.id.toNat,.slice g.A g.fs.length g.c] 33;have Y7:=Y6.keep G Y6.z;have a9:=(aT.below G).more G.size;have aj:=(aU.below G).more G.size;have aN:Below w1.heap.size w1 _:=AM ai ai.size G;obtain⟨u0,u1⟩:=Y7.c2;obtain⟨v0,v1⟩:=yg.c2;(go_upto_region 11 with fail);generalize w6.alloc _=w7 at *;generalize w6.heap.size=b7 at *;by_cases g1:f.id.toNat<=g.id.toNat
      .have HF:ga (R=false):=AB (by rw[HR.o];exact Fw af.o (by rw[aM.o,AG (show ¬g.id.toNat<f.id.toNat by omega)];simp));(go_wp2_with fail);go_ret;exact⟨by rw[HF.o];rfl,by rw[ad.o];exact ap.trans (aN.mono (Ad aq))⟩
      by_cases g2:f.fs.length<g.fs.length
      .have HF:ga (R=false):=AB (by rw[HR.o];exact Fw af.o (by rw[aM.o,AG (show ¬g.fs.length<=f.fs.length by omega)];simp));(go_wp2_with fail);go_ret;exact⟨by rw[HF.o];rfl,by rw[ad.o];exact ap.trans (aN.mono (Ad aq))⟩
      have zy:=Y7.z;have zg:=yg.z;have:g.fs.length<=9223372036854775807:=by have h1:=aj.le;have h2:=aj.cap;unfold maxLen at h2;omega
      clear f0 f1 c0 c1 X6 Y6 aL aT aU ai G;(go_wp2_with fail);go_loopw [6] (λiv wr=>∃m:Nat,iv = io m/\m<=g.fs.length/\ga (∀j,j<m->Eh (f.fs.getD j default) (g.fs.getD j default)=true)/\Below w7.heap.size w7 wr) (λiv _=>g.fs.length-(intOf iv).toNat);case atStart=>exact⟨0,rfl,AU _,AB (λj h=>gd),AC _ _⟩
      case round=>
       obtain⟨m,rfl,hm,ba,I⟩:=hrel;have q1:=(I.cell (p:=gX b5 1) zy).trans u1;have q2:=(I.cell (p:=gX b7 1) zg).trans v1;have aF:Below w1.heap.size w1 wr:=AM aN aN.size I;by_cases aG:m<g.fs.length
       .obtain⟨d1,o1,av,_,p0,p1,p2,p3⟩:=(a9.below I).fd (k:=m) gd;obtain⟨d2,o2,aw,_,r0,r1,r2,r3⟩:=(aj.below I).fd aG;rw[av]at q1;rw[aw]at q2;have:m<f.fs.length:=gd;generalize be:f.fs.getD m default=ff at *;generalize bg:g.fs.getD m default=gf at *;have aO:=gR be bg;clear be bg av aw;have aH:=NV ff gf;cases hq:Eh ff gf with
        | true=>
          rw[hq,Bool.not_true]at aH;have HQ:=AB hq;clear hq;(go_wp2_with fail);go_quiet (fail)
          (go_wp2_with fail);go_roundw;case rel=>
           refine⟨m+1,by go_num,aG,AB (λj hj=>?_),CO I _⟩;by_cases e:j=m
           .rw[e,aO.o.1,aO.o.2];exact HQ.o
           exact ba.o j gd
          case measure=>simp[intOf];omega
        | false=>
          rw[hq,Bool.not_false]at aH;have HF:ga (R=false):=AB (by rw[HR.o];exact Fw af.o (by rw[aM.o,Zc gd aG (by rw[aO.o.1,aO.o.2];exact hq)];simp));clear hq;(go_wp2_with fail);go_quiet (fail)
          (go_wp2_with fail);go_ret;exact⟨by rw[HF.o];rfl,by rw[ad.o];exact CO (ap.trans (aF.mono (Ad aq))) _⟩
       have aD:ga (sOk (ss.map dK) (k+1)=true):=AB (by
        rw[aM.o,AF a6.o,AF (show g.id.toNat<f.id.toNat by omega),AF (show g.fs.length<=f.fs.length by omega),Zb gd (λj hj=>ba.o j gd)];rfl)
       (go_wp2_with fail);go_roundw;case rel=>
        refine⟨k+2,by go_num,gd,AB (λj hj=>?_),aF⟩;by_cases e:j=k+1
        .rw[e];exact aD.o
        exact aa.o j gd
       case measure=>simp[intOf];omega
   have:=gM (check f.id f.fs) 0;have HF:ga (R=false):=AB (by rw[HR.o];exact Fw af.o (by rw[Kn az.o rfl];show(decide (check f.id f.fs=0)&&_)=false;rw[AG g];rfl));clear g;(go_wp2_with fail);go_ret;exact⟨by rw[HF.o];rfl,by rw[ad.o];exact ap.trans (ai.mono (Ad aq))⟩
  have aZ:ga (∀j,j<(ss.map dK).length->sOk (ss.map dK) j=true):=AB (λj hj=>aa.o j (by rw[Ae]at hj;omega));have bh:Below b1 w wr:=ap.trans (O.mono (Ad aq));have a0:b1<wr.heap.size:=AV aq O.size;obtain⟨x6,V⟩:=gZ wr #[il 0,il 0,il 0,il 0,il 0,im 0,ir] 43;have bi:=X.keep V X.z;have aL:=Z.later V;have ai:Below b1 w _:=bh.trans (V.mono (Ad a0));obtain⟨d0,d1,d2⟩:=bi.c3;clear aa O a5 x1;go_wp2_with fail
  generalize wr.alloc _=w6 at *;generalize wr.heap.size=b6 at *;have:b6<w6.heap.size:=x6.z;clear Z bh V ae hk X d0 d1 d2 c0 c1;go_loopw [8] (λiv wr=>∃(k:Nat) (p:Sn) (A:Option Addr) (c:Nat),iv = io k/\k<=ns.length/\dH wr b6 #[il p.id.toNat,il p.par.toNat,il p.seq.toNat,il p.off.toNat,il p.tim.toNat,im p.sch.toNat,.slice A p.ms.length c].toList/\ga (CK (ns.map dL) k=p)/\ga (∀j,j<k->nOk (ss.map dK) (ns.map dL) j=true)/\Below b6 w6 wr) (λiv _=>ns.length-(intOf iv).toNat);case atStart=>exact⟨0,default,none,0,rfl,AU _,x6,AB rfl,AB (λj h=>gd),AC _ _⟩
  case round=>
   obtain⟨m,p,pA,pc,rfl,hm,X,aV,aa,O⟩:=hrel;have XT:=bi.keep O a0;obtain⟨e0,e1,e2⟩:=XT.c3;have aP:Below b1 w wr:=ai.trans (O.mono (Ad a0));have Z:=(hT.below aP).more (show b1<=wr.heap.size by have:=O.size;omega);by_cases ae:m<ns.length
   .obtain⟨b,off,rfl,hb,f0,f1,f2,f3,f4,f5,f6⟩:=Z.nrow.nl ae;have ay:=Z.n_at ae;have bj:=bB.o _ (B9 ae);have ar:=JK ns m;generalize hf:ns.getD m default=f at *;have bk:=Nn (ss:=ss.map dK) (s:=f.p) (was:=p) ar aV.o;have aI:=AB bk;have az:=AB ar;have bE:=AB bj;have aB:m<(ns.map dL).length:=by rw[Ae];exact ae
    have af:=AB aB;clear hf ar bk aB bj;obtain⟨y,G⟩:=gZ wr #[il f.p.id.toNat,il f.p.par.toNat,il f.p.seq.toNat,il f.p.off.toNat,il f.p.tim.toNat,im f.p.sch.toNat,.slice f.A f.p.ms.length f.c] 43;have X5:=X.keep G X.z;have bl:=XT.keep G XT.z;have bF:b6<wr.heap.size:=X.z;have aC:=Z.later G;have ab:=(ay.below G).more G.size;have au:Below b6 w6 _:=AM O (Ad bF) G;have aJ:Below b1 w _:=AM aP (show b1<=wr.heap.size by omega) G;have g0:=y.cell 0 _ rfl;have v0:=X5.cell 0 _ rfl;have g1:=y.cell 1 _ rfl;have v1:=X5.cell 1 _ rfl;have g2:=y.cell 2 _ rfl;have v2:=X5.cell 2 _ rfl;have g3:=y.cell 3 _ rfl;have v3:=X5.cell 3 _ rfl;have g4:=y.cell 4 _ rfl;have v4:=X5.cell 4 _ rfl;have g5:=y.cell 5 _ rfl;have v5:=X5.cell 5 _ rfl;have g6:=y.cell 6 _ rfl;have v6:=X5.cell 6 _ rfl;have a1:=AB X5;have HY:=AB y;have bG:=AB bl;clear y X5 bl;(go_upto_region 23 with fail);go_cut [127] from 84 to 197 (λv wx=>v = .bool (!(n15 p f.p))/\wx=wr.alloc (.cells #[il f.p.id.toNat,il f.p.par.toNat,il f.p.seq.toNat,il f.p.off.toNat,il f.p.tim.toNat,im f.p.sch.toNat,.slice f.A f.p.ms.length f.c] 43));case first=>
     by_cases h1:f.p.id.toNat<=p.id.toNat
     .have HN:ga (n15 p f.p=false):=AB (by unfold n15;rw[AG (show ¬p.id.toNat<f.p.id.toNat by omega)];rfl);(go_wp2_with fail);go_meet;exact⟨by rw[HN.o];rfl,rfl⟩
     by_cases h3:f.p.id.toNat<=f.p.par.toNat
     .have HN:ga (n15 p f.p=false):=AB (by unfold n15;rw[AG (show ¬f.p.par.toNat<f.p.id.toNat by omega)];simp);(go_wp2_with fail);go_meet;exact⟨by rw[HN.o];rfl,rfl⟩
     by_cases h2:1073741824<f.p.id.toNat
     .have t2:=gG 1073741824 f.p.id.toNat
      have HN:ga (n15 p f.p=false):=AB (by unfold n15;rw[AG (show ¬f.p.id.toNat<=1073741824 by omega)];simp);clear h2;(go_wp2_with fail);go_meet;exact⟨by rw[HN.o];rfl,rfl⟩
     have t2:=gH 1073741824 f.p.id.toNat
     have HN:ga (n15 p f.p=decide (f.p.seq.toNat<=1073741824/\f.p.off.toNat<=1073741824/\f.p.tim.toNat<=1073741824)):=AB (by
      unfold n15;rw[AF (show p.id.toNat<f.p.id.toNat by omega),AF (show f.p.id.toNat<=1073741824 by omega),AF (show f.p.par.toNat<f.p.id.toNat by omega)];rfl)
     generalize f.p.seq.toNat=q1 at *;generalize f.p.off.toNat=q2 at *;generalize f.p.tim.toNat=q3 at *;clear h2;by_cases s1:1073741824<q1
     .have t3:=gG 1073741824 q1;have ak:ga (n15 p f.p=false):=AB (by rw[HN.o];exact AG gd);clear s1;(go_wp2_with fail);go_meet;exact⟨by rw[ak.o];rfl,rfl⟩
     have t3:=gH 1073741824 q1;by_cases s2:1073741824<q2
     .have t4:=gG 1073741824 q2;have ak:ga (n15 p f.p=false):=AB (by rw[HN.o];exact AG gd);clear s1 s2;(go_wp2_with fail);go_meet;exact⟨by rw[ak.o];rfl,rfl⟩
     have t4:=gH 1073741824 q2;by_cases s3:1073741824<q3
     .have t5:=gG 1073741824 q3;have ak:ga (n15 p f.p=false):=AB (by rw[HN.o];exact AG gd);clear s1 s2 s3;(go_wp2_with fail);go_meet;exact⟨by rw[ak.o];rfl,rfl⟩
     have t5:=gH 1073741824 q3;have ak:ga (n15 p f.p=true):=AB (by rw[HN.o];exact AF gd);clear s1 s2 s3;(go_wp2_with fail);go_meet;exact⟨by rw[ak.o];rfl,rfl⟩
    case rest=>
     obtain⟨rfl,rfl⟩:=hcut;generalize wr.alloc _=w7 at *;generalize wr.heap.size=b8 at *;clear f0 f1 f2 f3 f4 f5 f6 e0 e1 e2 aP Z ay X XT O G;cases am:n15 p f.p with
     | false=>
       have HF:ga (R=false):=AB (by rw[HR.o];exact Gd af.o (by rw[aI.o,FY,am];rfl));clear am;(go_wp2_with fail);go_ret;exact⟨by rw[HF.o];rfl,by rw[ad.o];exact aJ⟩
     | true=>
       have aW:=AB am;clear am;(go_upto_region 25 with fail);go_cut [166] from 84 to 197 (λv wx=>v = .bool (!(n17 p f.p&&(F0 (ss.map dK) f.p.sch&&decide (f.p.ms.length<=8))))/\Below w7.heap.size w7 wx);case first=>
        by_cases h0:f.p.seq.toNat<p.seq.toNat
        .have HN:ga (n17 p f.p=false):=AB (by unfold n17;rw[AG (show ¬p.seq.toNat<=f.p.seq.toNat by omega)];simp);(go_wp2_with fail);go_meet;exact⟨by rw[HN.o];rfl,AC _ _⟩
        by_cases h1:f.p.off.toNat<p.off.toNat
        .have HN:ga (n17 p f.p=false):=AB (by unfold n17;rw[AG (show ¬p.off.toNat<=f.p.off.toNat by omega)];simp);(go_wp2_with fail);go_meet;exact⟨by rw[HN.o];rfl,AC _ _⟩
        by_cases h2:f.p.tim.toNat<p.tim.toNat
        .have HN:ga (n17 p f.p=false):=AB (by unfold n17;rw[AG (show ¬p.tim.toNat<=f.p.tim.toNat by omega)];simp);(go_wp2_with fail);go_meet;exact⟨by rw[HN.o];rfl,AC _ _⟩
        by_cases h3:f.p.sch.toNat<p.sch.toNat
        .have HN:ga (n17 p f.p=false):=AB (by unfold n17;rw[AG (show ¬p.sch.toNat<=f.p.sch.toNat by omega)];simp);(go_wp2_with fail);go_meet;exact⟨by rw[HN.o];rfl,AC _ _⟩
        have HN:ga (n17 p f.p=true):=AB (by unfold n17;rw[AF (show p.seq.toNat<=f.p.seq.toNat by omega),AF (show p.off.toNat<=f.p.off.toNat by omega),AF (show p.tim.toNat<=f.p.tim.toNat by omega),AF (show p.sch.toNat<=f.p.sch.toNat by omega)];rfl);have bm:=Nm ss f.p.sch;have HH:=AB bm;obtain⟨o0,o1,o2⟩:=bG.o.c3;clear bm;(go_wp2_with fail);refine(ZZ w7 sA sc ss _ nc ns cur aC f.p.sch).mono ?_;rintro e w8 ⟨rfl,T⟩;obtain⟨i,hi⟩:=ib (cIx ss f.p.sch);have bn:ixA (λbH:Sl=>(bH.id.toNat:Int)==(f.p.sch.toNat:Int)) ss=i:=hi.symm;rw[bn];rw[<-hi]at HH;have Y8:=HY.o.keep T HY.o.z;have l6:=Y8.cell 6 _ rfl;clear hi bn g0 g1 g2 g3 g4 g5 g6 v0 v1 v2 v3 v4 v5 v6 o0 o1 o2 Y8;by_cases ag:i<0
        .have t6:decide (i<0)=true:=AF ag;have HB:ga ((n17 p f.p&&(F0 (ss.map dK) f.p.sch&&decide (f.p.ms.length<=8)))=false):=AB (by rw[HH.o,AG gd];simp);clear ag;(go_wp2_with fail);go_meet;exact⟨by rw[HB.o];rfl,T⟩
        have t6:decide (i<0)=false:=AG ag;by_cases h8:8<f.p.ms.length
        .have t7:=gG 8 f.p.ms.length;have HB:ga ((n17 p f.p&&(F0 (ss.map dK) f.p.sch&&decide (f.p.ms.length<=8)))=false):=AB (by rw[AG (show ¬f.p.ms.length<=8 by omega)];simp);clear ag h8;(go_wp2_with fail);go_meet;exact⟨by rw[HB.o];rfl,T⟩
        have t7:=gH 8 f.p.ms.length;have HB:ga ((n17 p f.p&&(F0 (ss.map dK) f.p.sch&&decide (f.p.ms.length<=8)))=true):=AB (by rw[HN.o,HH.o,AF (show(0:Int)<=i by omega),AF (show f.p.ms.length<=8 by omega)];rfl);clear ag h8;(go_wp2_with fail);go_meet;exact⟨by rw[HB.o];rfl,T⟩
       case rest=>
        obtain⟨rfl,T⟩:=hcut;have X8:=a1.o.keep T a1.o.z;have Y8:=HY.o.keep T HY.o.z;have z8:b6<w7.heap.size:=a1.o.z;have bo:=(ab.below T).more T.size;have aX:Below b1 w wc:=AM aJ (show b1<=w7.heap.size by omega) T;have bI:Below b6 w6 wc:=AM au (Ad z8) T;have zc:b6<wc.heap.size:=AV z8 T.size;have:b8≠b6:=gd;clear g0 v0 g1 v1 g2 v2 g3 v3 g4 v4 g5 v5 g6 v6 aC au aJ ab T;cases ao:n17 p f.p&&(F0 (ss.map dK) f.p.sch&&decide (f.p.ms.length<=8))with
        | false=>
          have HF:ga (R=false):=AB (by rw[HR.o];exact Gd af.o (by rw[aI.o,FY,aW.o,Zg ao];rfl));clear ao;(go_wp2_with fail);go_ret;exact⟨by rw[HF.o];rfl,by rw[ad.o];exact aX⟩
        | true=>
          have hn:=ao;simp only[BX,BI]at hn;have h8:f.p.ms.length<=8:=hn.2.2;have bp:=gR hn.1 hn.2.1;clear ao hn;have aQ:=gR X8 Y8;have l6:=Y8.cell 6 _ rfl;clear X8;(go_wp2_with fail);go_loopw [10] (λiv wr=>∃q:Nat,iv = io q/\q<=f.p.ms.length/\ga (∀i,i<q->Aq (f.p.ms.getD i default)=true/\∀j,j<i->((f.p.ms.getD j default).toList==(f.p.ms.getD i default).toList)=false)/\Below wc.heap.size wc wr) (λiv _=>f.p.ms.length-(intOf iv).toNat);case atStart=>exact⟨0,rfl,AU _,AB (λj h=>gd),AC _ _⟩
          case round=>
           obtain⟨q,rfl,hq,bq,I⟩:=hrel;have bu:=Y8.z;have m6:=(I.cell (p:=gX b8 6) bu).trans l6;have aF:Below b1 w wr:=AM aX (show b1<=wc.heap.size by omega) I;clear l6;by_cases ah:q<f.p.ms.length
           .have a2:=(bo.below I).more I.size;obtain⟨d1,o1,av,bJ,p0⟩:=a2.st ah;have bv:=bE.o _ (B9 ah);rw[av]at m6;obtain⟨x,hx⟩:=ib (f.p.ms.getD q default);rw[<-hx]at p0 bv;have HX:=AB hx;clear hx;(go_wp2_with fail);refine(KC wr x bv).mono ?_;rintro e w9 ⟨rfl,rfl⟩;cases aR:Aq x with
            | false=>
              have HF:ga (R=false):=AB (by rw[HR.o];exact Gd af.o (by rw[aI.o,FY,Zd ah (by rw[<-HX.o];exact aR)];simp));clear aR;(go_wp2_with fail);go_ret;exact⟨by rw[HF.o];rfl,by rw[ad.o];exact aF⟩
            | true=>
              have bK:=AB aR;have bL:=AB a2;have bM:=AB av;clear aR a2 av;(go_wp2_with fail);have zq:b1<=wr.heap.size:=by have:=I.size;omega
              have bN:b8<wr.heap.size:=AV bu I.size;have:q<=9223372036854775807:=gd;go_loopw [11] (λiv bO=>∃j:Nat,iv = io j/\j<=q/\ga (∀i,i<j->((f.p.ms.getD i default).toList==x.toList)=false)/\Below wr.heap.size wr bO) (λiv _=>q-(intOf iv).toNat);case atStart=>exact⟨0,rfl,AU _,AB (λj h=>gd),AC _ _⟩
              case round=>
               obtain⟨j,rfl,hj,aH,ax⟩:=hrel;have:=(ax.cell (p:=gX b8 6) bN).trans m6;have bP:Below b1 w wr:=AM aF zq ax;clear m6;by_cases aY:j<q
               .obtain⟨d2,o2,aw,_,r0⟩:=(bL.o.below ax).st (k:=j) gd;obtain⟨rfl,rfl⟩:d1=d2/\o1=o2:=by rw[bM.o]at aw;injection aw with ee;injection ee with e1 e2;exact⟨e1,e2⟩
                have:=(ax.cell (p:=gX d1 (o1+q)) bJ).trans p0;obtain⟨x2,a3⟩:=ib (f.p.ms.getD j default);rw[<-a3]at r0;have bw:=AB a3;clear a3 aw p0;cases he:x2.toList==x.toList with
                | true=>
                  have HF:ga (R=false):=AB (by rw[HR.o];exact Gd af.o (by rw[aI.o,FY,Ze ah aY (by rw[<-HX.o,<-bw.o];exact he)];simp));(go_wp2_with fail);go_quiet (fail)
                  (go_wp2_with fail);go_ret;exact⟨by rw[HF.o];rfl,by rw[ad.o];exact CO bP _⟩
                | false=>
                  have HE:=AB he;(go_wp2_with fail);go_quiet (fail)
                  (go_wp2_with fail);go_roundw;case rel=>
                   refine⟨j+1,by go_num,aY,AB (λi hi=>?_),CO ax _⟩;by_cases e:i=j
                   .rw[e,<-bw.o];exact HE.o
                   exact aH.o i gd
                  case measure=>simp[intOf];omega
               clear p0;(go_wp2_with fail);go_roundw;case rel=>
                refine⟨q+1,by go_num,ah,AB (λi hi=>?_),AM I I.size ax⟩;by_cases e:i=q
                .rw[e,<-HX.o];exact⟨bK.o,λi hi=>aH.o i gd⟩
                exact bq.o i gd
               case measure=>simp[intOf];omega
           have aD:ga (nOk (ss.map dK) (ns.map dL) m=true):=AB (by rw[aI.o,FY,aW.o,bp.o.1,bp.o.2,Zf h8 (λi hi=>bq.o i gd)];rfl);have XA:=aQ.o.1.keep I aQ.o.1.z;have YA:=aQ.o.2.keep I aQ.o.2.z;have bQ:Below b6 w6 wr:=AM bI (Ad zc) I;have g0:=YA.cell 0 _ rfl;have v0:=XA.cell 0 _ rfl;have:=XA.free 0 gj;have g1:=YA.cell 1 _ rfl;have v1:=XA.cell 1 _ rfl;have:=XA.free 1 gj;have g2:=YA.cell 2 _ rfl;have v2:=XA.cell 2 _ rfl;have:=XA.free 2 gj;have g3:=YA.cell 3 _ rfl;have v3:=XA.cell 3 _ rfl;have:=XA.free 3 gj;have g4:=YA.cell 4 _ rfl;have v4:=XA.cell 4 _ rfl;have:=XA.free 4 gj;have g5:=YA.cell 5 _ rfl;have v5:=XA.cell 5 _ rfl;have:=XA.free 5 gj;have g6:=YA.cell 6 _ rfl;have v6:=XA.cell 6 _ rfl;have:=XA.free 6 gj;have bR:=AB XA;clear m6 XA YA;(go_wp2_with fail);go_roundw;case rel=>
            refine⟨m+1,f.p,f.A,f.c,by go_num,gd,bR.o.set7,AB (by rw[JL,az.o];rfl),AB (λj hj=>?_),Hc bQ (AD _)⟩;by_cases e:j=m
            .rw[e];exact aD.o
            exact aa.o j gd
           case measure=>simp[intOf];omega
   have HF:ga (R=decide (cur=p.id.toNat)):=AB (by
    rw[HR.o,Np (by simp only[Ae];exact HL.o) aZ.o (λj hj=>aa.o j (by rw[Ae]at hj;omega))];rw[Ae,show ns.length=m by omega,aV.o])
   have v0:=X.cell 0 _ rfl;obtain⟨a4,aK⟩:=ib (decide (cur=p.id.toNat));have hq:((cur:Int)==(p.id.toNat:Int))=a4:=by rw[aK,Cx];simp;omega
   have HE:=AB aK;clear aK;(go_wp2_with fail);go_ret;exact⟨by rw[HF.o,<-HE.o];first|rfl|(rw[hq];rfl),by rw[ad.o];exact aP⟩
theorem MK (w sA sc ss nA nc ns)(cur:Nat)(hT:TabR w w.heap.size sA sc ss nA nc ns)(hms:∀s∈ns,∀m∈s.p.ms,m.size<=9223372036854775807):
 Calls prog 66 #[.agg #[.slice sA ss.length sc,.slice nA ns.length nc,il cur]] w (JT w (ss.map dK) (ns.map dL) cur):=by
 go_enter func66,ntmps66;go_wp2_with fail
 have x1:=Dv w #[.slice sA ss.length sc,.slice nA ns.length nc,il cur] 39;have ao:=hI w (.cells #[.slice sA ss.length sc,.slice nA ns.length nc,il cur] 39);generalize w.alloc _=w1 at *;have ax:=hT.later ao;obtain⟨bx,ay⟩:∃b,b=w.heap.size:=⟨_,rfl⟩;rw[<-ay]at x1 ⊢;have bm:=AB ay;clear ay hT;refine(MH w1 sA sc ss nA nc ns cur ax hms).mono ?_;rintro e w2 ⟨rfl,hb2⟩;have az:=AM ao ao.size hb2;have X2:=x1.keep hb2;have aB:=ax.later hb2;clear x1 ax ao hb2;cases hr:B7 (ss.map dK) (ns.map dL) cur with
 | false=>
   have HR:=AB hr;clear hr;(go_wp2_with fail);go_ret2;exact .inr ⟨HR.o,rfl,az⟩
 | true=>
   have HR:=AB hr;have HH:=AB (Gh hr);have a0:ss.length<=16:=by have:=HH.o.1.2.1;simpa using this
   have bn:ns.length<=32:=by have:=HH.o.1.2.2;simpa using this
   clear hr;have kc:=Lib.run_convert_bytes_const (P:=prog) w2 55 5 #[ip 84,ip 70,ip 49] 3 3 underlying55 underlying5;have ae:=hI w2 (.cells #[ip 84,ip 70,ip 49] 5 (3,4));have aP:∀j u,(AO tf1)[j]? = some u->(w2.alloc (.cells #[ip 84,ip 70,ip 49] 5 (3,4))).cell? (gX w2.heap.size j)=some u:=λj u hj=>by
    have e:(#[Value.int .u8 84,ip 70,ip 49]:Array Value).toList=AO tf1:=rfl;rw[World.cell?_alloc_mark,<-Array.getElem?_toList,e];exact hj
   have X3:=X2.keep ae;have aC:w2.heap.size<(w2.alloc (.cells #[ip 84,ip 70,ip 49] 5 (3,4))).heap.size:=gj;have c0:=X3.bx.cell 0 _ rfl;have aD:IntKind.u64.wrap (ss.length:Int)=(ss.length:Int):=by rw[BU];omega
   have aE:(ss.length:Int) % 18446744073709551616=(ss.length:Int):=gd;have hp:=Dg ss.length gd;have a1:=put_pos ss.length;have a2:IntKind.u8.wrap (ss.length:Int)=(ss.length:Int):=by rw[IntKind.wrap_u8];omega
   have a3:(ss.length:Int) % 256=(ss.length:Int):=gd;have af:=Ro (n:=ss.length) gd;have ap:=(AC (w2.alloc (.cells #[ip 84,ip 70,ip 49] 5 (3,4))).heap.size _).alloc (AD _) (.cells #[ip ss.length] 5);have ai:((w2.alloc (.cells #[ip 84,ip 70,ip 49] 5 (3,4))).alloc (.cells #[ip ss.length] 5)).ownsRow (w2.alloc (.cells #[ip 84,ip 70,ip 49] 5 (3,4))).heap.size 5 1 (.slice (gY (w2.heap.size+1) 0) 1 1) (Var.put ss.length).length (AO (Var.put ss.length)):=by
    rw[af.1,<-af.2];have:=Ew (w2.alloc (.cells #[ip 84,ip 70,ip 49] 5 (3,4))) 5 1 1 #[ip ss.length] (AD _) gm rfl;simpa using this
   have X4:=X3.keep ap;have aQ:∀j u,(AO tf1)[j]? = some u->((w2.alloc (.cells #[ip 84,ip 70,ip 49] 5 (3,4))).alloc (.cells #[ip ss.length] 5)).cell? (gX w2.heap.size j)=some u:=λj u hj=>(ap.cell (p:=gX w2.heap.size j) aC).trans (aP j u hj);have a4:ga (w2.heap.size<=((w2.alloc (.cells #[ip 84,ip 70,ip 49] 5 (3,4))).alloc (.cells #[ip ss.length] 5)).heap.size):=AB gt;have bo:tf1.length=3:=rfl;have aR:=AB X3;have a5:ga (w2.heap.size<=(w2.alloc (.cells #[ip 84,ip 70,ip 49] 5 (3,4))).heap.size):=AB (Ad aC);clear aD aE X2 X3 aP af aC;go_wp2_with (at_builtin;refine Kz (l:=tf1) rfl (.tmp 15) (.tmp 20) rfl rfl aQ rfl ai a1 gd ?_;intro v5 w5 aS aF;have o5:Buf w2.heap.size (tf1++Var.put ss.length) v5 w5:=(B4 aS a4.o);have X5:=X4.keep aF;have c0:=X5.bx.cell 0 _ rfl;have Z5:=(Bz.of (B:=w2.heap.size) ap).trans (Bz.of aF);clear aS ai X4 ap aF aQ kc)
   generalize w2.alloc (.cells #[ip 84,ip 70,ip 49] 5 (3,4))=w3 at *;have aa:=a5.o;go_loopw [4,5] (λab iv wr=>∃(bv:Value) (k:Nat) (q:List UInt8),ab=bv/\iv = io k/\k<=ss.length/\Buf w2.heap.size q bv wr/\ga (q=wr0 (ss.map dK)++Ci ((ss.map dK).take k))/\Bz w2.heap.size w3 wr) (λ_ iv _=>ss.length-(intOf iv).toNat);case atStart=>exact⟨_,0,tf1++Var.put ss.length,rfl,rfl,AU _,o5,AB (by unfold wr0 Ci;rw[Ae];simp),Z5⟩
   case round=>
    clear o5 Z5 c0 X5;obtain⟨bv,k,q,rfl,rfl,hk,ob,hq,hz⟩:=hrel;have XR:=aR.o.bz hz gm;have ag:w2.heap.size<=wr.heap.size:=AS aa hz.size;have T:=(aB.below (ae.trans (hz.below aa))).more ag;have aG:q.length<=7000:=by
     have e:(Ci ((ss.map dK).take k)).length<=((ss.map dK).take k).length * 400:=JS λs hs=>HH.o.2.1 s (List.mem_of_mem_take hs);have e2:((ss.map dK).take k).length<=16:=by rw[BN,Ae];omega
     have e3:(wr0 (ss.map dK)).length<=13:=by unfold wr0;rw[AR,Ae];omega
     have e4:((ss.map dK).take k).length * 400<=16 * 400:=Cc _ e2;rw[hq.o,AR];omega
    by_cases aj:k<ss.length
    .obtain⟨b,off,rfl,hb,f0,f1⟩:=T.srow.sl aj;have aT:=T.s_at aj;have aq:=HH.o.2.1 _ (B9 (l:=ss.map dK) (i:=k) (by rw[Ae];exact aj));have I:=FD (f:=λs:Ps=>DK s.1 s.2) (l:=ss.map dK) (k:=k) (by rw[Ae];exact aj);have ak:(ss.map dK).getD k default=dK (ss.getD k default):=Gc ss k;rw[ak]at aq I;generalize hf:ss.getD k default=f at *;have ad:=AB I;have a6:=AB aq;have bp:(DK f.id f.fs).length<=400:=L0 aq;clear hf ak aq I T;have zA:=hz;have c0:=XR.bx.cell 0 _ rfl;(go_wp2_with fail);refine(Zi wr f.id _ f.c f.A f.fs aT (OL a6.o)).mono ?_;rintro e w6 ⟨v6,rfl,hown6,G⟩;obtain⟨A6,c6,rfl⟩:=BK hown6;have o6:=ob.keep G;have V:=Ay hown6;have aH:w2.heap.size<=w6.heap.size:=AS ag G.size;clear c0 f0 f1 aT ob hown6 XR;go_wp2_with (at_builtin;refine FZ rfl (.tmp 29) (.tmp 35) rfl rfl o6 A6 _ c6 _ rfl V gd aH ?_;intro v7 w7 o7 O;have Z7:=zA.trans ((Bz.of G).trans O);clear o6 V G zA O hz)
     go_roundw;case rel=>exact⟨_,k+1,q++DK f.id f.fs,rfl,by go_num,aj,o7,AB (by rw[hq.o];unfold Ci;rw[ad.o,Az];rfl),Z7⟩
     case measure=>simp[intOf];omega
    have HQ:ga (q=wr0 (ss.map dK)++Ci (ss.map dK)):=AB (by rw[hq.o,CF (by rw[Ae];omega)]);obtain⟨c0,c1⟩:=XR.bx.c2;have a2:IntKind.u8.wrap (ns.length:Int)=(ns.length:Int):=by rw[IntKind.wrap_u8];omega
    have a3:(ns.length:Int) % 256=(ns.length:Int):=gd;have af:=Ro (n:=ns.length) gd;have a7:=Dg ns.length gd;have G:=hI wr (.cells #[ip ns.length] 5);have V:Rd (wr.alloc (.cells #[ip ns.length] 5)) (wr.heap.size+1) 1 (gY wr.heap.size 0) 1 1 (AO (Var.put ns.length)):=by
     rw[<-af.2];exact Rd.lit wr 5 #[ip ns.length] rfl gm
    have o6:=ob.keep G;have X6:=XR.keep G;have aU:w2.heap.size<=(wr.alloc (.cells #[ip ns.length] 5)).heap.size:=gt;have z6:=hz.trans (Bz.of G);clear hq T hk ob G XR hz af;go_wp2_with (at_builtin;refine FZ rfl (.tmp 37) (.tmp 42) rfl rfl o6 (gY wr.heap.size 0) 1 1 _ rfl V gd aU ?_;intro v7 w7 o7 O;have X7:=X6.bz O gm;have c1:=X7.bx.cell 1 _ rfl;have Z7:=z6.trans O;clear o6 V z6 O X6)
    have a8:(q++Var.put ns.length).length<=7010:=by rw[AR];omega
    go_loopw [4,6] (λab iv wr=>∃(bv:Value) (k:Nat) (q:List UInt8),ab=bv/\iv = io k/\k<=ns.length/\Buf w2.heap.size q bv wr/\ga (q=wr1 (ss.map dK) (ns.map dL)++DB ((ns.map dL).take k))/\Bz w2.heap.size w3 wr) (λ_ iv _=>ns.length-(intOf iv).toNat);case atStart=>exact⟨_,0,_,rfl,rfl,AU _,o7,AB (by unfold wr1 DB;rw[HQ.o,Ae];simp),Z7⟩
    case round=>
     clear o7 Z7 c1 X7 a8 aG ag HQ aU;obtain⟨bv,m,p,rfl,rfl,hm,ob,ar,hz⟩:=hrel;have XR:=aR.o.bz hz gm;have ag:w2.heap.size<=wr.heap.size:=AS aa hz.size;have T:=(aB.below (ae.trans (hz.below aa))).more ag;have bq:p.length<=20000:=by
      have e:(DB ((ns.map dL).take m)).length<=((ns.map dL).take m).length * 342:=OK λs hs=>HH.o.2.2 s (List.mem_of_mem_take hs);have e2:((ns.map dL).take m).length<=32:=by rw[BN,Ae];omega
      have e4:((ns.map dL).take m).length * 342<=32 * 342:=Cc _ e2;have e5:(Ci (ss.map dK)).length<=(ss.map dK).length * 400:=JS HH.o.2.1;have e6:(ss.map dK).length * 400<=16 * 400:=Cc _ (by rw[Ae];exact a0);have e3:(wr1 (ss.map dK) (ns.map dL)).length<=6423:=by unfold wr1 wr0;simp only[AR];rw[Ae,Ae];omega
      rw[ar.o,AR];omega
     by_cases Z:m<ns.length
     .obtain⟨b,off,rfl,hb,f0,f1,f2,f3,f4,f5,f6⟩:=T.nrow.nl Z;have aV:=aB.n_at Z;have aI:=HH.o.2.2 _ (B9 (l:=ns.map dL) (i:=m) (by rw[Ae];exact Z));have I:=FD (f:=snB) (l:=ns.map dL) (k:=m) (by rw[Ae];exact Z);have ak:(ns.map dL).getD m default=dL (ns.getD m default):=JK ns m;rw[ak]at aI I;generalize hf:ns.getD m default=f at *;have ad:=AB I;have aJ:=AB (JR aI);have h8:f.p.ms.length<=8:=aJ.o.1;clear hf ak aI I T;have au:=hI wr (.cells #[il f.p.id.toNat,il f.p.par.toNat,il f.p.seq.toNat,il f.p.off.toNat,il f.p.tim.toNat,im f.p.sch.toNat,.slice f.A f.p.ms.length f.c] 43);have y:=Dv wr #[il f.p.id.toNat,il f.p.par.toNat,il f.p.seq.toNat,il f.p.off.toNat,il f.p.tim.toNat,im f.p.sch.toNat,.slice f.A f.p.ms.length f.c] 43;have oA:=ob.keep au;have zA:Bz w2.heap.size w3 _:=hz.trans (Bz.of au);have a9:w2.heap.size<=(wr.alloc (.cells #[il f.p.id.toNat,il f.p.par.toNat,il f.p.seq.toNat,il f.p.off.toNat,il f.p.tim.toNat,im f.p.sch.toNat,.slice f.A f.p.ms.length f.c] 43)).heap.size:=AS ag au.size;have c1:=XR.bx.cell 1 _ rfl;obtain⟨u0,u1,u2,u3,u4,u5,u6⟩:=y.bx.c7;(go_upto_region 13 with fail);generalize wr.alloc _=wA at *;generalize wr.heap.size=b8 at *;have aW:=f.p.sch.toNat_lt;have ba:IntKind.u64.wrap (f.p.sch.toNat:Int)=(f.p.sch.toNat:Int):=by rw[BU];omega
      have be:(f.p.sch.toNat:Int) % 18446744073709551616=(f.p.sch.toNat:Int):=gd;have aD:IntKind.u64.wrap (f.p.ms.length:Int)=(f.p.ms.length:Int):=by rw[BU];omega
      have aE:(f.p.ms.length:Int) % 18446744073709551616=(f.p.ms.length:Int):=gd;have av:=hI wA (.cells #[il f.p.id.toNat,il f.p.par.toNat,il f.p.seq.toNat,il f.p.off.toNat,il f.p.tim.toNat,il f.p.sch.toNat,il f.p.ms.length] 35);have L:=Dv wA #[il f.p.id.toNat,il f.p.par.toNat,il f.p.seq.toNat,il f.p.off.toNat,il f.p.tim.toNat,il f.p.sch.toNat,il f.p.ms.length] 35;have yL:=y.keep av;have oL:=oA.keep av;have zL:Bz w2.heap.size w3 _:=zA.trans (Bz.of av);have bg:w2.heap.size<=(wA.alloc (.cells #[il f.p.id.toNat,il f.p.par.toNat,il f.p.seq.toNat,il f.p.off.toNat,il f.p.tim.toNat,il f.p.sch.toNat,il f.p.ms.length] 35)).heap.size:=AS a9 av.size;clear f0 f1 f2 f3 f4 f5 f6 ob oA zA au hz c1;(go_wp2_with fail);generalize wA.alloc _=wL at *;generalize wA.heap.size=bl at *;clear ba be aD aE u0 u1 u2 u3 u4 u5 u6 aW;have aX:=L4 (p:=f.p) h8;have aK:=AB aX;have HL:ga (BoxT wL bl ((BD f.p).map λn:Nat=>Value.int .u64 n) 35):=AB L;clear aX L y;have HY:=AB yL;clear yL;go_loopw [4,9] (λab iv wq=>∃(bv:Value) (k:Nat) (q:List UInt8),ab=bv/\iv = io k/\k<=7/\Buf w2.heap.size q bv wq/\ga (q=p++Dy ((BD f.p).take k))/\Bz w2.heap.size wL wq) (λ_ iv _=>7-(intOf iv).toNat);case atStart=>exact⟨_,0,p,rfl,rfl,gd,oL,AB (by unfold Dy;simp),Bz.refl _ _⟩
      case round=>
       obtain⟨bv,k,q,rfl,rfl,hk,ob,hq,hz⟩:=hrel;have aL:w2.heap.size<=wr.heap.size:=AS bg hz.size;have LR:=HL.o.bz hz gm;by_cases aM:k<7
       .have ah:k<(BD f.p).length:=aM;have aN:=LR.bx.cell k (il ((BD f.p).getD k 0:Int)) (by rw[DY,BF ah,DV _ _ ah];rfl);have aY:=aK.o ((BD f.p).getD k 0) (by rw[DV _ _ ah];exact List.getElem_mem ah);have I:(BD f.p).take (k+1)=(BD f.p).take k++[(BD f.p).getD k 0]:=by rw[Cn,BF ah,DV _ _ ah];rfl
        have aG:q.length<=p.length+70:=by
         have e:(Dy ((BD f.p).take k)).length<=((BD f.p).take k).length * 10:=IM λn hn=>aK.o n (List.mem_of_mem_take hn);have e2:((BD f.p).take k).length<=7:=by rw[BN];omega
         rw[hq.o,AR];omega
        generalize (BD f.p).getD k 0=n at *;have ad:=AB I;have a7:=Dg n aY;clear I;(go_wp2_with fail);refine(FN (n:Int) wr gd gd).mono ?_;rintro e w6 ⟨v6,rfl,hown6,G⟩;rw[BM]at hown6;obtain⟨A6,c6,rfl⟩:=BK hown6;have o6:=ob.keep G;have V:=Ay hown6;have aH:w2.heap.size<=w6.heap.size:=AS aL G.size;clear aN ob hown6 LR;go_wp2_with (at_builtin;refine FZ rfl (.tmp 80) (.tmp 85) rfl rfl o6 A6 _ c6 _ rfl V gd aH ?_;intro v7 w7 o7 O;have Z7:=hz.trans ((Bz.of G).trans O);clear o6 V G O)
        go_roundw;case rel=>exact⟨_,k+1,q++Var.put n,rfl,by go_num,aM,o7,AB (by rw[hq.o,ad.o];unfold Dy;rw[List.flatMap_append,Az];simp),Z7⟩
        case measure=>simp[intOf];omega
       have HQ:ga (q=p++Dy (BD f.p)):=AB (by rw[hq.o,CF (show(BD f.p).length<=k by have:(BD f.p).length=7:=rfl;omega)]);have aG:q.length<=p.length+70:=by
        have e:(Dy (BD f.p)).length<=(BD f.p).length * 10:=IM aK.o;have e2:(BD f.p).length=7:=rfl;rw[HQ.o,AR];omega
       have YR:=HY.o.bz hz gm;have u6:=YR.bx.cell 6 _ rfl;have zR:=zL.trans hz;have bj:=(aV.below (ae.trans (zR.below aa))).more aL;clear hq;(go_wp2_with fail);generalize f.A=fA at *;go_loopw [4,10] (λab iv wq=>∃(bv:Value) (k:Nat) (r:List UInt8),ab=bv/\iv = io k/\k<=f.p.ms.length/\Buf w2.heap.size r bv wq/\ga (r=q++txs (f.p.ms.take k))/\Bz w2.heap.size wr wq) (λ_ iv _=>f.p.ms.length-(intOf iv).toNat);case atStart=>exact⟨_,0,q,rfl,rfl,AU _,ob,AB (by unfold txs;simp),Bz.refl _ _⟩
       case round=>
        clear u6 aM hk ob;obtain⟨bv,k,r,rfl,rfl,hk,ob,hr,am⟩:=hrel;have u6:=(YR.bz am gm).bx.cell 6 _ rfl;have aZ:w2.heap.size<=wr.heap.size:=AS aL am.size;have bu:r.length<=q.length+272:=by
         have e:(txs (f.p.ms.take k)).length<=(f.p.ms.take k).length * 34:=EP λs hs=>L3 (aJ.o.2 s (List.mem_of_mem_take hs));have e2:(f.p.ms.take k).length<=8:=by rw[BN];omega
         rw[hr.o,AR];omega
        by_cases aw:k<f.p.ms.length
        .obtain⟨b1,o1,rfl,bw,p0⟩:=((aV.below (ae.trans ((zR.trans am).below aa))).more aZ).st aw;have bk:=aJ.o.2 (f.p.ms.getD k default) (B9 aw);have I:=FD (f:=tx) aw;generalize f.p.ms.getD k default=x at *;have ad:=AB I;clear I;(go_wp2_with fail);refine(MJ wr w2.heap.size r _ x ob aZ gd).mono ?_;rintro e w6 ⟨v6,rfl,o6,z6⟩;have Z6:=am.trans z6;clear ob p0;(go_wp2_with fail);go_roundw;case rel=>exact⟨_,k+1,r++tx x,rfl,by go_num,aw,o6,AB (by rw[hr.o];unfold txs;rw[ad.o,Az]),Z6⟩
         case measure=>simp[intOf];omega
        have bh:ga (r=wr1 (ss.map dK) (ns.map dL)++DB ((ns.map dL).take (m+1))):=AB (by
         rw[hr.o,CF (show f.p.ms.length<=k by omega),HQ.o,ar.o];unfold DB;rw[ad.o];unfold snB;simp only[Az];rfl)
        have Z4:=zR.trans am;(go_wp2_with fail);go_roundw;case rel=>exact⟨_,m+1,r,rfl,by go_num,Z,ob,bh,Z4⟩
        case measure=>simp[intOf];omega
     have HP:ga (p=wrT (ss.map dK) (ns.map dL)):=AB (by rw[ar.o,CF (by rw[Ae];omega)];rfl);obtain⟨bA,bc,rfl⟩:=BK ob;have aO:Below w.heap.size w wr:=az.trans ((ae.trans (hz.below aa)).mono az.size);have bi:=Ay ob;have c1:=XR.bx.cell 1 _ rfl;clear ar T XR;(go_wp2_with fail);refine(Rn wr wr.heap.size p.length bc bA p bi (AD _) gd).mono ?_;rintro e w9 ⟨v9,rfl,hown9,hb9⟩;(go_wp2_with fail);go_ret2;refine .inl ⟨HR.o,v9,rfl,?_,AM aO aO.size hb9⟩;unfold wrS;rw[<-HP.o];exact B4 hown9 aO.size
