/- For CatalogEntries. -/
import Derived.Test.YtpfofefecamkfaaGreatDoorZ15
namespace Go.Proofs.YtpfofefecamkfaaGreatDoor
open Go.RowKit Proofs.Tryz
set_option maxRecDepth 100000
set_option maxHeartbeats 16000000
set_option linter.all false
theorem Zm (w c):Calls prog 258 #[.agg #[ip c.kind.toNat,io c.n,.string c.s]] w λe w'=>e = .returned (io (C9 c:Int))/\Below w.heap.size w w':=by
 have hb:c.kind.toNat<256:=c.kind.toNat_lt;have hE:emp c.s=c.s.toList.isEmpty:=rfl;have hZ:=L7 c.s;generalize hk:c.kind.toNat=k at *;generalize hn:c.n=n at *;generalize hs:c.s=s at *;have I:C9 c=if 3<k then 10 else if (k≠3/\emp s=false)\/(k≠1/\k≠2/\n≠0)\/(k=2/\n≠0/\n≠1) then 1 else if 64<s.size then 5 else 0:=by unfold C9;rw[hk,hn,hs]
 clear hk hn hs;by_cases h3:3<k
 .have:=gG 3 k;rw[AJ h3]at I;rw[I];clear h3 hE hZ I;go_enter func258,ntmps258;go_wp2_with fail
  go_ret;exact⟨rfl,(AC _ _).alloc (AD _) _⟩
 rw[AE h3]at I;have aa:k=0\/k=1\/k=2\/k=3:=gd;clear h3 hb;generalize emp s=em at *;have ab:s.toList.isEmpty=em:=hE.symm;clear hE;rcases aa with rfl|rfl|rfl|rfl
 .cases em with
  | false=>
    clear hZ;have G:C9 c=1:=by rw[I];simp
    rw[G];clear I G;go_enter func258,ntmps258;(go_wp2_with fail);go_ret;exact⟨rfl,(AC _ _).alloc (AD _) _⟩
  | true=>
    have T:s.size=0:=of_decide_eq_true hZ.symm;have tl:=gH 64 s.size;have hl:¬ 64<s.size:=gd;clear hZ T;by_cases O:n=0
    .subst O;have G:C9 c=0:=by rw[I];simp[hl]
     rw[G];clear I G;go_enter func258,ntmps258;(go_wp2_with fail);go_ret;exact⟨rfl,(AC _ _).alloc (AD _) _⟩
    have tn:(n==0)=false:=by rw[AQ];exact O
    have Z:(n != 0)=true:=by rw[Am];exact O
    have G:C9 c=1:=by rw[I];simp[O]
    rw[G];clear I G;go_enter func258,ntmps258;(go_wp2_with fail);go_ret;exact⟨rfl,(AC _ _).alloc (AD _) _⟩
 .cases em with
  | false=>
    clear hZ;have G:C9 c=1:=by rw[I];simp
    rw[G];clear I G;go_enter func258,ntmps258;(go_wp2_with fail);go_ret;exact⟨rfl,(AC _ _).alloc (AD _) _⟩
  | true=>
    have T:s.size=0:=of_decide_eq_true hZ.symm;have tl:=gH 64 s.size;have hl:¬ 64<s.size:=gd;clear hZ T;have G:C9 c=0:=by rw[I];simp[hl]
    rw[G];clear I G;go_enter func258,ntmps258;(go_wp2_with fail);go_ret;exact⟨rfl,(AC _ _).alloc (AD _) _⟩
 .cases em with
  | false=>
    clear hZ;have G:C9 c=1:=by rw[I];simp
    rw[G];clear I G;go_enter func258,ntmps258;(go_wp2_with fail);go_ret;exact⟨rfl,(AC _ _).alloc (AD _) _⟩
  | true=>
    have T:s.size=0:=of_decide_eq_true hZ.symm;have tl:=gH 64 s.size;have hl:¬ 64<s.size:=gd;clear hZ T;by_cases O:n=0
    .subst O;have G:C9 c=0:=by rw[I];simp[hl]
     rw[G];clear I G;go_enter func258,ntmps258;(go_wp2_with fail);go_ret;exact⟨rfl,(AC _ _).alloc (AD _) _⟩
    have tn:(n==0)=false:=by rw[AQ];exact O
    have Z:(n != 0)=true:=by rw[Am];exact O
    by_cases V:n=1
    .subst V;have G:C9 c=0:=by rw[I];simp[hl]
     rw[G];clear I G;go_enter func258,ntmps258;(go_wp2_with fail);go_ret;exact⟨rfl,(AC _ _).alloc (AD _) _⟩
    have:(n==1)=false:=by rw[AQ];exact V
    have:(n != 1)=true:=by rw[Am];exact V
    have G:C9 c=1:=by rw[I];simp[O,V]
    rw[G];clear I G;go_enter func258,ntmps258;(go_wp2_with fail);go_ret;exact⟨rfl,(AC _ _).alloc (AD _) _⟩
 have I:C9 c=if (¬(3:Nat)≠3->False)/\False\/n≠0 then 1 else if 64<s.size then 5 else 0:=by rw[I];simp
 clear hZ ab;by_cases O:n=0
 .subst O;by_cases hl:64<s.size
  .have tl:=gG 64 s.size;have G:C9 c=5:=by rw[I];simp[hl]
   rw[G];clear I G;go_enter func258,ntmps258;(go_wp2_with fail);go_ret;exact⟨rfl,(AC _ _).alloc (AD _) _⟩
  have tl:=gH 64 s.size;have G:C9 c=0:=by rw[I];simp[hl]
  rw[G];clear I G;go_enter func258,ntmps258;go_wp2_with fail
  go_ret;exact⟨rfl,(AC _ _).alloc (AD _) _⟩
 have tn:(n==0)=false:=by rw[AQ];exact O
 have Z:(n != 0)=true:=by rw[Am];exact O
 have G:C9 c=1:=by rw[I];simp[O]
 rw[G];clear I G;go_enter func258,ntmps258;go_wp2_with fail
 go_ret;exact⟨rfl,(AC _ _).alloc (AD _) _⟩
theorem Rq (w x):Calls prog 245 #[.agg #[ip x.kind.toNat,io x.n.toInt,.string x.s]] w (FQ w (.bool (CZ x))):=by
 obtain⟨er,I⟩:=ia (C9 x.cl);have hB:CZ x=(decide (er=0) && !decide (x.kind.toNat=0)):=by unfold CZ;rw[I]
 have HV:∀w,Calls prog 258 #[.agg #[ip x.kind.toNat,io x.n.toInt,.string x.s]] w λe w'=>e = .returned (io er)/\Below w.heap.size w w':=λw=>by rw[<-I];exact Zm w x.cl
 rw[hB];have O:x.kind.toNat<256:=x.kind.toNat_lt;obtain⟨k,hk⟩:=ia x.kind.toNat;rw[hk]at HV O ⊢;generalize x.n.toInt=n at *;generalize x.s=s at *;have G:=hI w (.cells #[ip k,io n,.string s] 199);obtain⟨R,hR⟩:=ia (decide (er=0) && !decide (k=0));rw[hR];clear hB I hk;by_cases h1:k=0
 .have t1:=gO k 0;obtain rfl:R=false:=by rw[<-hR,h1];simp
  clear hR h1;go_enter func245,ntmps245;go_wp2_with fail
  go_ret;exact⟨rfl,G⟩
 have t1:=gM k 0;by_cases h0:er=0
 .have t0:=gK er 0;obtain rfl:R=true:=by rw[<-hR,h0,AG h1];rfl
  clear hR h0 h1;go_enter func245,ntmps245;go_wp2_with fail
  refine(HV _).mono ?_;rintro e w2 ⟨rfl,hb2⟩;go_wp2_with fail
  go_ret;exact⟨rfl,AM G G.size hb2⟩
 have t0:=gL er 0;obtain rfl:R=false:=by rw[<-hR,AG h0];rfl
 clear hR h0 h1;go_enter func245,ntmps245;go_wp2_with fail
 refine(HV _).mono ?_;rintro e w2 ⟨rfl,hb2⟩;go_wp2_with fail
 go_ret;exact⟨rfl,AM G G.size hb2⟩
theorem Zs (w s):Calls prog 217 #[.agg #[io s.rows.toInt,io s.nulls.toInt,.bool s.som,.bool s.high,ip s.mn.kind.toNat,io s.mn.n.toInt,.string s.mn.s,ip s.mx.kind.toNat,io s.mx.n.toInt,.string s.mx.s]] w (FQ w (.bool (Dh s))):=by
 rw[Ot];have H1:=λw=>Rq w s.mn;have H2:=λw=>Rq w s.mx;generalize CZ s.mn=b1 at *;generalize CZ s.mx=b2 at *;obtain⟨R,hR⟩:=ia (Hr s.rows.toInt s.nulls.toInt s.som s.high b1 b2 (DM s.mn.kind.toNat s.mn.n.toInt s.mn.s) (DM s.mx.kind.toNat s.mx.n.toInt s.mx.s) s.mn.kind.toNat s.mx.kind.toNat);rw[hR];have:s.mn.kind.toNat<256:=s.mn.kind.toNat_lt;have:s.mx.kind.toNat<256:=s.mx.kind.toNat_lt;generalize s.rows.toInt=rw at *;generalize s.nulls.toInt=nl at *;generalize s.som=som at *;generalize s.high=high at *;generalize s.mn.kind.toNat=k1 at *;generalize s.mn.n.toInt=n1 at *;generalize s.mn.s=s1 at *;generalize s.mx.kind.toNat=k2 at *;generalize s.mx.n.toInt=n2 at *;generalize s.mx.s=s2 at *;unfold Hr at hR;by_cases h1:nl<0
 .obtain rfl:R=false:=by rw[<-hR];simp[h1]
  have t1:decide (nl<0)=true:=AF h1;clear hR h1;go_enter func217,ntmps217;go_wp2_with fail
  go_ret;exact⟨rfl,(hI w _).alloc gj _⟩
 have t1:decide (nl<0)=false:=AG h1;by_cases h3:(256:Int)<rw
 .obtain rfl:R=false:=by rw[<-hR];simp[h1,h3]
  have t3:decide ((256:Int)<rw)=true:=AF h3;clear hR h1 h3;go_enter func217,ntmps217;go_wp2_with fail
  go_ret;exact⟨rfl,(hI w _).alloc gj _⟩
 have t3:decide ((256:Int)<rw)=false:=AG h3;by_cases h2:rw<nl
 .obtain rfl:R=false:=by rw[<-hR];simp[h1,h3,h2]
  have t2:decide (rw<nl)=true:=AF h2;clear hR h1 h3 h2;go_enter func217,ntmps217;go_wp2_with fail
  go_ret;exact⟨rfl,(hI w _).alloc gj _⟩
 have t2:decide (rw<nl)=false:=AG h2;rw[AE h1,AE h2,AE h3]at hR;obtain⟨Z,aa⟩:=gZ w #[io rw,io nl,.bool som,.bool high,ip k1,io n1,.string s1,ip k2,io n2,.string s2] 201;have:nl<=rw:=gd;clear h1 h2 h3;by_cases h4:nl<rw
 .have t4:decide (nl<rw)=true:=AF h4;have t5:(nl==rw)=false:=by rw[AQ];omega
  have t6:(nl != rw)=true:=by rw[Am];omega
  cases som with
  | true=>
    cases high with
    | false=>
      replace hR:(b1&&DM k2 n2 s2)=R:=by rw[<-hR];simp[h4]
      clear h4;go_enter func217,ntmps217;(go_wp2_with fail);refine(H1 _).mono ?_;rintro e w2 ⟨rfl,hb2⟩;have:=(hI w (.cells #[io rw,io nl,.bool true,.bool false,ip k1,io n1,.string s1,ip k2,io n2,.string s2] 201));have z0:=AP (w.alloc (.cells #[io rw,io nl,.bool true,.bool false,ip k1,io n1,.string s1,ip k2,io n2,.string s2] 201)) #[ip 0,io 0,.string ⟨#[]⟩] 199;have I:=(AC _ (w.alloc (.cells #[io rw,io nl,.bool true,.bool false,ip k1,io n1,.string s1,ip k2,io n2,.string s2] 201))).alloc (AD _) (.cells #[ip 0,io 0,.string ⟨#[]⟩] 199);have T:=Z.keep I Z.z;have G:=T.keep hb2 T.z;have z2:=z0.keep hb2 z0.z;have ae:(w.alloc (.cells #[io rw,io nl,.bool true,.bool false,ip k1,io n1,.string s1,ip k2,io n2,.string s2] 201)).heap.size=w.heap.size+1:=gj;rw[ae]at z2;obtain⟨ak,am,ao⟩:=z2.c3;have V:=AM aa aa.size I;have O:=AM V V.size hb2;have c7:=G.cell 7 _ rfl;have c8:=G.cell 8 _ rfl;have c9:=G.cell 9 _ rfl;cases b1 with
      | false=>
        obtain rfl:R=false:=by rw[<-hR];simp
        clear hR;(go_wp2_with fail);go_ret;exact⟨rfl,O⟩
      | true=>
        simp only[CV]at hR;have HR:=AB hR;clear hR;go_wp2_with fail
        all_goals go_ret
        all_goals refine⟨?_,O⟩
        all_goals (rw[<-HR.o];simp[DM, *])
    | true=>
      replace hR:(b1&&(b2&&decide (k1=k2)))=R:=by rw[<-hR];simp[h4]
      clear h4;go_enter func217,ntmps217;(go_wp2_with fail);refine(H1 _).mono ?_;rintro e w2 ⟨rfl,hb2⟩;have I:=(AC _ (w.alloc (.cells #[io rw,io nl,.bool true,.bool true,ip k1,io n1,.string s1,ip k2,io n2,.string s2] 201))).alloc (AD _) (.cells #[ip 0,io 0,.string ⟨#[]⟩] 199);have T:=Z.keep I Z.z;have G:=T.keep hb2 T.z;have V:=AM aa aa.size I;have O:=AM V V.size hb2;have c7:=G.cell 7 _ rfl;have c8:=G.cell 8 _ rfl;have c9:=G.cell 9 _ rfl;cases b1 with
      | false=>
        obtain rfl:R=false:=by rw[<-hR];simp
        clear hR;(go_wp2_with fail);go_ret;exact⟨rfl,O⟩
      | true=>
        simp only[CV]at hR;(go_wp2_with fail);refine(H2 _).mono ?_;rintro e w3 ⟨rfl,hb3⟩;have af:=G.keep hb3 G.z;have ad:=AM O O.size hb3;obtain⟨-,-,-,-,d4,-,-,d7⟩:=af.c8;clear c7 c8 c9;cases b2 with
        | false=>
          obtain rfl:R=false:=by rw[<-hR];simp
          clear hR;(go_wp2_with fail);go_ret;exact⟨rfl,ad⟩
        | true=>
          simp only[CV]at hR;by_cases ab:k1=k2
          .have t7:=gK k1 k2;have t8:=gK k2 k1;obtain rfl:R=true:=by rw[<-hR];exact AF ab
           clear ab hR;(go_wp2_with fail);go_ret;exact⟨rfl,ad⟩
          have t7:=gL k1 k2;have t8:=gL k2 k1;obtain rfl:R=false:=by rw[<-hR];exact AG ab
          clear ab hR;(go_wp2_with fail);go_ret;exact⟨rfl,ad⟩
  | false=>
    obtain rfl:R=false:=by rw[<-hR];simp[h4]
    clear hR h4;go_enter func217,ntmps217;(go_wp2_with fail);go_ret;exact⟨rfl,(hI w _).alloc gj _⟩
 have t4:decide (nl<rw)=false:=AG h4;have t5:(nl==rw)=true:=by rw[Ap];omega
 have t6:(nl != rw)=false:=by rw[bne_eq_false_iff_eq];omega
 cases som with
 | true=>
   obtain rfl:R=false:=by rw[<-hR];simp[h4]
   clear hR h4;go_enter func217,ntmps217;(go_wp2_with fail);go_ret;exact⟨rfl,(hI w _).alloc gj _⟩
 | false=>
   cases high with
   | true=>
     obtain rfl:R=false:=by rw[<-hR];simp[h4]
     clear hR h4;go_enter func217,ntmps217;(go_wp2_with fail);go_ret;exact⟨rfl,(hI w _).alloc gj _⟩
   | false=>
     replace hR:(DM k1 n1 s1&&DM k2 n2 s2)=R:=by rw[<-hR];simp[h4]
     rw[<-hR];clear hR h4;go_enter func217,ntmps217;go_wp2_with fail
     all_goals go_ret
     all_goals refine⟨?_,(hI w _).alloc gj _⟩
     all_goals simp[DM, *]
theorem Zt (w x SA sc)(hr:Rd w w.heap.size 10 SA x.stats.length sc (BH x.stats))(hms:x.name.size<=9223372036854775807):Calls prog 178 #[.agg #[.string x.name,.bool x.keys,il x.seq.toNat,io x.rows.toInt,im x.sch.toNat,.slice SA x.stats.length sc]] w (FQ w (.bool (CP x))):=by
 rw[Ou];have HN:=λw=>KC w x.name hms;have:=x.seq.toNat_lt;have:=x.sch.toNat_lt;have:x.stats.length<=9223372036854775807:=by have h1:=hr.le;have h2:=hr.cap;unfold maxLen at h2;omega
 clear hms;generalize Aq x.name=c1 at *;generalize x.name=nm at *;generalize x.seq.toNat=sq at *;generalize x.rows.toInt=rw at *;generalize x.keys=kb at *;generalize x.sch.toNat=sc32 at *;generalize x.stats=L at *;obtain⟨R,hR⟩:=ia (Hs c1 sq rw kb sc32 L);rw[hR];unfold Hs at hR;obtain⟨x0,af⟩:=gZ w #[.string nm,.bool kb,il sq,io rw,im sc32,.slice SA L.length sc] 97;go_enter func178,ntmps178;go_wp2_with fail
 generalize w.alloc _=w1 at *;have ap:ga (∀w',Below w.heap.size w w'->Rd w' w'.heap.size 10 SA L.length sc (BH L)):=AB (λw' hb=>(hr.below hb).more hb.size);obtain⟨bx,aj⟩:∃b,b=w.heap.size:=⟨_,rfl⟩;rw[<-aj]at x0 ⊢;clear hr aj;refine(HN w1).mono ?_;rintro e w2 ⟨rfl,aa⟩;have aa:Below w1.heap.size w1 w2:=aa▸AC _ _;have X2:=x0.keep aa x0.z;have I:=AM af af.size aa;clear x0 af aa HN;cases c1 with
 | false=>
   obtain rfl:R=false:=by rw[<-hR];simp
   clear hR;(go_wp2_with fail);go_ret;exact⟨rfl,I⟩
 | true=>
 obtain⟨-,-,c2,c3⟩:=X2.c4;by_cases h1:1073741824<sq
 .obtain rfl:R=false:=by rw[<-hR];simp[h1]
  have t1:=gG 1073741824 sq;clear hR;go_wp2_with fail
  go_ret;exact⟨rfl,I⟩
 have t1:=gH 1073741824 sq;by_cases h2:rw<0
 .obtain rfl:R=false:=by rw[<-hR];simp[h1,h2]
  have t2:decide (rw<0)=true:=AF h2;clear hR;go_wp2_with fail
  go_ret;exact⟨rfl,I⟩
 have t2:decide (rw<0)=false:=AG h2;by_cases h3:256<rw
 .obtain rfl:R=false:=by rw[<-hR];simp[h1,h2,h3]
  have t3:decide (256<rw)=true:=AF h3;clear hR;go_wp2_with fail
  go_ret;exact⟨rfl,I⟩
 have t3:decide (256<rw)=false:=AG h3;simp only[h1,h2,h3,if_false,Bool.true_eq_false]at hR;clear h1 h2 h3;have c5:=X2.cell 5 _ rfl;by_cases h5:L.length<1
 .obtain rfl:R=false:=Rr hR (.inl h5);have t4:=gG L.length 1;clear hR;go_wp2_with fail
  go_ret;exact⟨rfl,I⟩
 have t4:=gH L.length 1;by_cases h6:8<L.length
 .obtain rfl:R=false:=Rr hR (.inr h6);have t5:=gG 8 L.length;clear hR;go_wp2_with fail
  go_ret;exact⟨rfl,I⟩
 have t5:=gH 8 L.length;have HR:=AB hR;have ak:=gR h5 h6;clear hR h5 h6;go_wp2_with fail
 clear c2 c3 c5 t1 t2 t3 t4 t5;go_loopw [3] (λiv wr=>∃k:Nat,iv = io k/\k<=L.length/\ga ((L.take k).all (okS rw)=true)/\dH wr bx [.string nm,.bool kb,il sq,io rw,im sc32,.slice SA L.length sc]/\Below w.heap.size w wr) (λiv _=>L.length-(intOf iv).toNat);case atStart=>exact⟨0,rfl,AU _,AB rfl,X2,I⟩
 case round=>
  clear X2 I;obtain⟨k,rfl,hk,O,X,hB⟩:=hrel;obtain⟨-,-,-,c3,-,c5⟩:=X.c6;by_cases ab:k<L.length
  .have am:=ap.o _ hB;obtain⟨gb,off,ag,aq,T⟩:=am.stA ab;obtain⟨s,hs⟩:=ia (L.getD k default);obtain⟨f0,f1,f2,f3,f4,f5,f6,f7,f8,f9⟩:=T s hs;have HS:=AB hs;have HX:=gR X hB;have ao:=AB O.o;have:=AB ag;rw[ag]at c5;have zx:bx<wr.drew.heap.size:=X.z;have zg:gb<wr.drew.heap.size:=aq;clear hs am T hB O ag X;(go_upto_region 6 with fail);by_cases Z:s.rows.toInt=rw
   .have t5:(s.rows.toInt != rw)=false:=by rw[bne_eq_false_iff_eq];exact Z
    have ar:=AB Z;obtain⟨ok,ad⟩:=ia (Dh s);clear Z;go_cut [59] from 35 to 59 (λv wx=>v = .bool (!ok)/\Below wr.heap.size wr wx);case first=>
     rename_i J K1 hJ hK1;refine DR BC gh gh ?_;simp only[Bv,Bw];iterate 15 (refine zV ?_ rfl ?_ ?_;rotate_left 1;(·intro w' G C hC;have q5:=(G.cell (p:=gX bx 5) zx).trans c5;have g0:=(G.cell (p:=gX gb (off+k * 10)) zg).trans f0;have q3:=(G.cell (p:=gX bx 3) zx).trans c3;have g1:=(G.cell (p:=gX gb (off+k * 10+1)) zg).trans f1;have:=(G.cell (p:=gX gb (off+k * 10+2)) zg).trans f2;have:=(G.cell (p:=gX gb (off+k * 10+3)) zg).trans f3;have:=(G.cell (p:=gX gb (off+k * 10+4)) zg).trans f4;have:=(G.cell (p:=gX gb (off+k * 10+5)) zg).trans f5;have:=(G.cell (p:=gX gb (off+k * 10+6)) zg).trans f6;have:=(G.cell (p:=gX gb (off+k * 10+7)) zg).trans f7;have:=(G.cell (p:=gX gb (off+k * 10+8)) zg).trans f8;have:=(G.cell (p:=gX gb (off+k * 10+9)) zg).trans f9;go_simp;(try go_bits);exact hC);simp only[AX,AI,AH])
     refine C5 (.is (.bool ok)) (λ_ _ h=>by cases h) rfl rfl (Cq _) (λw' G=>?_) ?_
     .go_simp;exact⟨AC _ _,(Zs w' s).mono λe aB h=>Db (show e = .returned (.bool ok) from by rw[<-ad];exact h.1) h.2⟩
     simp only[AX,AI,AH];iterate 2 (refine zV ?_ rfl ?_ ?_;rotate_left 1;(·intro w' G C hC;go_simp;(try go_bits);exact hC);simp only[AX,AI,AH])
     intro wd ah;simp only[C6];refine hK1 _ _ ?_;go_meet;exact⟨rfl,BY ah⟩
    case rest=>
    obtain⟨rfl,ae⟩:=hcut;have au:=AB (HX.o.1.keep ae HX.o.1.z);have V:=AM HX.o.2 HX.o.2.size ae;clear f0 f1 f2 f3 f4 f5 f6 f7 f8 f9 c3 c5 ae zx zg;cases ok with
    | false=>
      obtain rfl:R=false:=by rw[<-HR.o,Jb ab (by rw[HS.o];unfold okS;rw[ad];simp)];simp
      clear ad;(go_wp2_with fail);go_ret;exact⟨rfl,V⟩
    | true=>
      have av:=AB (Ov ab ao.o (by rw[HS.o];unfold okS;rw[ad,AF ar.o];rfl));clear ad;(go_wp2_with fail);go_roundw;case rel=>exact⟨k+1,by go_num,ab,AB av.o,au.o,V⟩
      case measure=>simp[intOf];omega
   have t5:(s.rows.toInt != rw)=true:=by rw[Am];exact Z
   obtain rfl:R=false:=by rw[<-HR.o,Jb ab (by rw[HS.o];unfold okS;rw[AG Z];rfl)];simp
   clear Z;go_cut [59] from 35 to 59 (λv wx=>v = .bool true/\Below wr.heap.size wr wx);case first=>
    rename_i J K1 hJ hK1;refine DR BC gh gh ?_;simp only[Bv,Bw];iterate 18 ((first|(refine zS rfl ?_)|(refine zV ?_ rfl ?_ ?_;rotate_left 1;(·intro w' G C hC;have q5:=(G.cell (p:=gX bx 5) zx).trans c5;have g0:=(G.cell (p:=gX gb (off+k * 10)) zg).trans f0;have q3:=(G.cell (p:=gX bx 3) zx).trans c3;go_simp;(try go_bits);exact hC)));simp only[AX,AI,AH])
    intro wd ah;simp only[C6];refine hK1 _ _ ?_;go_meet;exact⟨rfl,BY ah⟩
   case rest=>
   obtain⟨rfl,ae⟩:=hcut;have V:=AM HX.o.2 HX.o.2.size ae;(go_wp2_with fail);go_ret;exact⟨rfl,V⟩
  have hR:=HR.o;have e0:L.take k=L:=by rw[show k=L.length by omega,E8]
  have ai:=O.o;rw[e0]at ai;rw[ai]at hR;simp only[Bool.true_eq_false,if_false]at hR;obtain⟨-,c1,-,-,c4,c5⟩:=X.c6;clear O e0 ai;cases kb with
  | true=>
    simp only[if_true]at hR;by_cases g0:sc32=0
    .have t6:=gK sc32 0;by_cases g1:L.length=1
     .have t7:=gK L.length 1;obtain rfl:R=true:=by rw[<-hR];simp[g0,g1]
      clear hR g0 g1;(go_wp2_with fail);go_ret;exact⟨rfl,hB⟩
     have t7:=gL L.length 1;obtain rfl:R=false:=by rw[<-hR];simp[g0,g1]
     clear hR g0 g1;(go_wp2_with fail);go_ret;exact⟨rfl,hB⟩
    have t6:=gL sc32 0;obtain rfl:R=false:=by rw[<-hR];simp[g0]
    clear hR g0;(go_wp2_with fail);go_ret;exact⟨rfl,hB⟩
  | false=>
    simp only[EK,if_false]at hR;by_cases g0:sc32=0
    .have t6:=gO sc32 0;obtain rfl:R=false:=by rw[<-hR];simp[g0]
     clear hR g0;(go_wp2_with fail);go_ret;exact⟨rfl,hB⟩
    have t6:=gM sc32 0;obtain⟨m1,m2⟩:=ak.o;obtain rfl:R=true:=by rw[<-hR,AG g0,AF (show 1<=L.length by omega),AF (show L.length<=8 by omega)];rfl
    clear hR g0 m1 m2;(go_wp2_with fail);go_ret;exact⟨rfl,hB⟩
theorem Zv (w A c l ls)(hls:ls=l.map El.p)(hr:EnR w w.heap.size A c l)(hms:∀x∈l,x.p.name.size<=9223372036854775807):Calls prog 124 #[.slice A l.length c] w (Jc w ls):=by
 by_cases aV:64<l.length
 .have t1:=gG 64 l.length;have he:=LK (l:=ls) (by simpa [hls]using aV);clear aV;go_enter func124,ntmps124;go_wp2_with fail
  go_ret2;exact⟨AC _ _,.inr ⟨by rw[he];decide,by rw[he];rfl⟩⟩
 have t1:=gH 64 l.length;have cv:l.length<=64:=gd;have cA:=AB aV;clear aV;have kc:=Lib.run_convert_bytes_const (P:=prog) w 55 5 #[ip 77,ip 70,ip 49] 3 3 underlying55 underlying5;have aG:IntKind.u64.wrap (l.length:Int)=(l.length:Int):=by rw[BU];omega
 have aH:(l.length:Int) % 18446744073709551616=(l.length:Int):=gd;have bE:=hI w (.cells #[ip 77,ip 70,ip 49] 5 (3,4));have bF:∀j u,(AO mf1)[j]? = some u->(w.alloc (.cells #[ip 77,ip 70,ip 49] 5 (3,4))).cell? (gX w.heap.size j)=some u:=λj u hj=>by
  have e:(#[Value.int .u8 77,ip 70,ip 49]:Array Value).toList=AO mf1:=rfl;rw[World.cell?_alloc_mark,<-Array.getElem?_toList,e];exact hj
 have aW:w.heap.size<(w.alloc (.cells #[ip 77,ip 70,ip 49] 5 (3,4))).heap.size:=gj;go_enter func124,ntmps124;go_wp2_with fail
 generalize w.alloc (.cells #[ip 77,ip 70,ip 49] 5 (3,4))=w1 at *;refine(Zu w1 w.heap.size l.length mf1 gd bF aW gm).mono ?_;rintro e w2 ⟨v2,rfl,o2',hb2⟩;have o2:Buf w.heap.size (mf1++Var.put l.length) v2 w2:=B4 o2' (Ad aW);have bg:Below w.heap.size w w2:=AM bE (Ad aW) hb2;obtain⟨p0,aX⟩:=ia (mf1++Var.put l.length);have cw:p0.length<=13:=by
  have:=Var.put_le10 (n:=l.length) gd;have e3:mf1.length=3:=rfl;rw[<-aX,AR];omega
 rw[aX]at o2;have b0:=AB aX;obtain⟨B,hB⟩:=ib w.heap.size;rw[<-hB]at o2 bg hr ⊢;have HB:=AB hB;clear aX o2' bE hb2 bF aW kc hB;clear w1;have bG:ls.length=l.length:=by rw[hls,Ae]
 have a5:∀k,ls.getD k default=(l.getD k default).p:=λk=>by rw[hls];exact Ht l k
 clear hls;go_wp2_with fail
 go_loopw [4,5] (λbh iv wr=>∃(bv:Value) (k:Nat) (q:List UInt8),bh=bv/\iv = io k/\k<=l.length/\ga (∀j,j<k->CP (ls.getD j default)=true/\(ls.getD j default).name∉(ls.take j).map En.name)/\Buf B q bv wr/\ga (q=p0++Cj (ls.take k))/\Below B w wr) (λ_ iv _=>l.length-(intOf iv).toNat);case atStart=>exact⟨_,0,p0,rfl,rfl,AU _,AB (λj hj=>gd),o2,AB (by simp[Cj]),bg⟩
 case round=>
  clear o2 bg aG aH;obtain⟨bv,k,q,rfl,rfl,hk,ae,ob,hq,af⟩:=hrel;have bi:B<=wr.heap.size:=by have:=af.size;have:=HB.o;omega
  have cB:q.length<=300000:=by
   have h1:(Cj (ls.take k)).length<=(ls.take k).length * 1550:=EP λz hz=>by
    obtain⟨j,hj,rfl⟩:=List.getElem_of_mem hz;rw[BN]at hj;have:=ae.o j gd;rw[List.getElem_take,<-DV _ _ gd];exact LE this.1
   have h2:(ls.take k).length * 1550<=64 * 1550:=Cc _ (by rw[BN];omega);rw[hq.o,AR];omega
  by_cases aY:k<l.length
  .obtain⟨gb,off,rfl,cC,O⟩:=(hr.below af).row.elA aY;have bj:=(hr.below af).ins (l.getD k default) (B9 aY);have bH:=hms (l.getD k default) (B9 aY);have aZ:=a5 k;obtain⟨x,hx⟩:=ia (l.getD k default);obtain⟨f0,f1,f2,f3,f4,f5⟩:=O x hx;rw[hx]at bj aZ bH;have bI:Cj (ls.take (k+1))=Cj (ls.take k)++E3 x.p:=by rw[<-aZ];exact FD gd
   have bk:=AB aZ;have b1:=AB bI;have y:=Dv wr #[.string x.p.name,.bool x.p.keys,il x.p.seq.toNat,io x.p.rows.toInt,im x.p.sch.toNat,.slice x.A x.p.stats.length x.c] 97;have ad:=hI wr (.cells #[.string x.p.name,.bool x.p.keys,il x.p.seq.toNat,io x.p.rows.toInt,im x.p.sch.toNat,.slice x.A x.p.stats.length x.c] 97);have ah:B<=(wr.alloc (.cells #[.string x.p.name,.bool x.p.keys,il x.p.seq.toNat,io x.p.rows.toInt,im x.p.sch.toNat,.slice x.A x.p.stats.length x.c] 97)).heap.size:=AS bi ad.size;have oA:=ob.keep ad;have a6:=af.trans (ad.mono bi);have aI:=bj.below (ad.mono bi);clear O hx aZ bI bj ob af;(go_upto_region 8 with fail);generalize wr.alloc _=wA at *;generalize wr.heap.size=xb at *;obtain⟨u0,u1,u2,u3,u4,u5⟩:=y.bx.c6;clear f0 f1 f2 f3 f4 f5;(go_wp2_with fail);refine(Zt wA x.p x.A x.c (aI.more ah) bH).mono ?_;rintro e w5 ⟨rfl,hb5⟩;have o5:=oA.keep hb5;have y5:=y.keep hb5;have aq:=AM a6 ah hb5;have a7:=aI.below (hb5.mono ah);have ar:=AS ah hb5.size;clear oA y a6 aI hb5 ad u0 u1 u2 u3 u4 u5 ah;cases a0:CP x.p with
   | false=>
     have ai:=JW (met:=[]) (l:=ls) (k:=k) gd (.inl (by rw[bk.o];exact a0));have aJ:=AB ai;clear a0 ai;(go_wp2_with fail);go_ret2;rw[HB.o]at aq;have h9:=IS (l:=ls) gd aJ.o;exact⟨aq,.inr ⟨by rw[h9];decide,by rw[h9];rfl⟩⟩
   | true=>
     have bJ:=AB a0;clear a0;(go_wp2_with fail);go_loopw [7] (λiv wq=>∃m:Nat,iv = io m/\m<=k/\ga (∀j,j<m->(ls.getD j default).name≠x.p.name)/\Below w5.heap.size w5 wq) (λiv _=>k-(intOf iv).toNat);case atStart=>exact⟨0,rfl,AU _,AB (λj hj=>gd),AC _ _⟩
     case round=>
      obtain⟨m,rfl,hm,bl,ak⟩:=hrel;have y6:=y5.keep ak;have au:=aq.trans (ak.mono ar);by_cases bK:m<k
      .obtain⟨cD,cx,bm,cy,bL⟩:=(hr.below au).row.elA (show m<l.length by omega);injection bm with bm;injection bm with e1 e2;subst e1 e2;obtain⟨z,hz⟩:=ia (l.getD m default);obtain⟨g0,_⟩:=bL z hz;have bn:=a5 m;rw[hz]at bn;have bM:=AB bn;have u0:=y6.bx.cell 0 _ rfl;clear bL hz bn;cases bo:(z.p.name.toList==x.p.name.toList)with
       | true=>
         have ai:=JW (met:=[]) (l:=ls) (k:=k) gd (.inr (by
          rw[bk.o,CN,<-Gi (Ap.1 bo),<-bM.o];refine CG.2 ⟨ls.getD m default,?_,rfl⟩;rw[DV _ _ gd];exact List.mem_take_iff_getElem.2 ⟨m,gd,rfl⟩))
         have aJ:=AB ai;clear ai;(go_upto_region 13 with fail);go_quiet (fail)
         (go_wp2_with fail);go_ret2;have a8:=CO au nq;rw[HB.o]at a8;have h9:=IS (l:=ls) gd aJ.o;exact⟨a8,.inr ⟨by rw[h9];decide,by rw[h9];rfl⟩⟩
       | false=>
         have b2:ga (z.p.name≠x.p.name):=AB λq=>by rw[q,beq_self_eq_true]at bo;cases bo
         (go_upto_region 13 with fail);go_quiet (fail)
         (go_wp2_with fail);go_roundw;case rel=>
          refine⟨m+1,by go_num,bK,AB λj hj=>?_,CO ak _⟩;rcases Nat.lt_or_ge j m with bN|bN
          .exact bl.o j bN
          obtain rfl:j=m:=gd;rw[bM.o];exact b2.o
         case measure=>simp[intOf];omega
      have bp:ga (∀j,j<k+1->CP (ls.getD j default)=true/\(ls.getD j default).name∉(ls.take j).map En.name):=AB λj hj=>by
       rcases Nat.lt_or_ge j k with bO|bO
       .exact ae.o j bO
       obtain rfl:j=k:=gd;rw[bk.o];refine⟨bJ.o,λq=>?_⟩;obtain⟨z,hz,b5⟩:=CG.1 q;obtain⟨i,hi,rfl⟩:=List.mem_take_iff_getElem.1 hz;refine bl.o i gd ?_;rw[DV _ _ gd];exact b5
      have o6:=o5.keep ak;have bP:=a7.below (ak.mono ar);have aj:=AS ar ak.size;have b7:=AB au;have u0:=y6.bx.cell 0 _ rfl;obtain⟨g1,g2,g3,g4,g5,g6,g7⟩:=Gj bJ.o;have gp:=Hq g1;have p1:=JY x.p.name gd;clear ae bl ak o5 y5 aq a7 ar au;(go_upto_region 15 with fail);clear hm bK;(go_wp2_with fail);refine(MJ wr B q _ x.p.name o6 aj gd).mono ?_;rintro e w7 ⟨v7,rfl,o7,hz⟩;have z7:=(Bz.refl B wr).trans hz;have y7:=y6.bz hz gm;have bq:=AS aj hz.size;have b8:=aj;obtain⟨l7,av⟩:∃z,q++tx x.p.name=z:=⟨_,rfl⟩;rw[av]at o7;have cE:l7.length<=300100:=by rw[<-av,AR];omega
      have cc:=AB av;clear av o6 hz y6 u0 p1;obtain⟨kb,am⟩:=ia x.p.keys;obtain⟨rn,bu⟩:∃n:Nat,x.p.rows.toInt=(n:Int):=⟨x.p.rows.toInt.toNat,gd⟩;have hE:E3 x.p=tx x.p.name++(Var.put (DC kb)++(Var.put x.p.seq.toNat++(Var.put rn++(Var.put x.p.sch.toNat++(Var.put x.p.stats.length++CQ x.p.stats))))):=by unfold E3;rw[bu,BM,am]
      have HE:=AB hE;rw[am,bu]at y7;have u1:=y7.bx.cell 1 _ rfl;have H7:=AB g7;have H6:=AB g6;have bQ:=x.p.sch.toNat_lt;have ao:rn<18446744073709551616:=gd;have aK:x.p.seq.toNat<18446744073709551616:=gd;have aL:x.p.sch.toNat<18446744073709551616:=gd;have a1:x.p.stats.length<18446744073709551616:=gd;have p2:=Var.put_le10 (n:=DC kb) (by unfold DC;split<;>omega);have p3:=Var.put_le10 (n:=x.p.seq.toNat) aK;have p4:=Var.put_le10 (n:=rn) ao;have p5:=Var.put_le10 (n:=x.p.sch.toNat) aL;have p6:=Var.put_le10 (n:=x.p.stats.length) a1;have aG:IntKind.u64.wrap (rn:Int)=(rn:Int):=by rw[BU];omega
      have aH:(rn:Int) % 18446744073709551616=(rn:Int):=gd;have bR:IntKind.u64.wrap (x.p.sch.toNat:Int)=(x.p.sch.toNat:Int):=by rw[BU];omega
      have bS:(x.p.sch.toNat:Int) % 18446744073709551616=(x.p.sch.toNat:Int):=gd;have cd:IntKind.u64.wrap (x.p.stats.length:Int)=(x.p.stats.length:Int):=by rw[BU];omega
      have cf:(x.p.stats.length:Int) % 18446744073709551616=(x.p.stats.length:Int):=gd;clear hE am bu g1 g2 g3 g4 g5 g6 g7 gp bQ;go_upto_if 51 with fail;go_cut [8] from 8 to 8 (λv8 wx=>v8 = il (DC kb:Int)/\wx=w7);case first=>
       cases kb with
       | true=>
         (go_wp2_with fail);go_meet;exact⟨rfl,rfl⟩
       | false=>
         (go_wp2_with fail);go_meet;exact⟨rfl,rfl⟩
      case rest=>
      obtain⟨rfl,rfl⟩:=hcut;have bT:DC kb<18446744073709551616:=by unfold DC;split<;>omega
      have T:=(AC wc.heap.size wc).drew;have yD:=y7.keep T;have oD:=o7.keep T;have zD:=z7.trans (Bz.of T);have I:B<=wc.drew.heap.size:=bq;clear u1 y7 o7 z7 T;generalize DC kb=fl at *;(go_upto_region 19 with fail);refine wp_region_held_drew (S:=λw'=>dH w' xb [.string x.p.name,.bool kb,il x.p.seq.toNat,io rn,im x.p.sch.toNat,.slice x.A x.p.stats.length x.c]) gh ?_ (λhHeld=>?_)
      .exact yD.bx
      refine ij 0 (v:=?_) ?_ ?_;rotate_left 1
      ·(intro w hSw;have q0:=hSw.cell 0 _ rfl;have q1:=hSw.cell 1 _ rfl;have q2:=hSw.cell 2 _ rfl;have q3:=hSw.cell 3 _ rfl;have q4:=hSw.cell 4 _ rfl;have q5:=hSw.cell 5 _ rfl;go_simp;first|done|with_reducible rfl)
      refine ie ?_;refine ij 1 (v:=?_) ?_ ?_;rotate_left 1
      ·(intro w hSw;have q0:=hSw.cell 0 _ rfl;have q1:=hSw.cell 1 _ rfl;have q2:=hSw.cell 2 _ rfl;have q3:=hSw.cell 3 _ rfl;have q4:=hSw.cell 4 _ rfl;have q5:=hSw.cell 5 _ rfl;go_simp;first|done|with_reducible rfl)
      refine ie ?_;refine ij 3 (v:=?_) ?_ ?_;rotate_left 1
      ·(intro w hSw;have q0:=hSw.cell 0 _ rfl;have q1:=hSw.cell 1 _ rfl;have q2:=hSw.cell 2 _ rfl;have q3:=hSw.cell 3 _ rfl;have q4:=hSw.cell 4 _ rfl;have q5:=hSw.cell 5 _ rfl;go_simp;first|done|with_reducible rfl)
      refine ie ?_;refine ij 4 (v:=?_) ?_ ?_;rotate_left 1
      ·(intro w hSw;have q0:=hSw.cell 0 _ rfl;have q1:=hSw.cell 1 _ rfl;have q2:=hSw.cell 2 _ rfl;have q3:=hSw.cell 3 _ rfl;have q4:=hSw.cell 4 _ rfl;have q5:=hSw.cell 5 _ rfl;go_simp;first|done|with_reducible rfl)
      refine ie ?_;refine ij 6 (v:=?_) ?_ ?_;rotate_left 1
      ·(intro w hSw;have q0:=hSw.cell 0 _ rfl;have q1:=hSw.cell 1 _ rfl;have q2:=hSw.cell 2 _ rfl;have q3:=hSw.cell 3 _ rfl;have q4:=hSw.cell 4 _ rfl;have q5:=hSw.cell 5 _ rfl;go_simp;first|done|with_reducible rfl)
      refine ie ?_;refine ij 7 (v:=?_) ?_ ?_;rotate_left 1
      ·(intro w hSw;have q0:=hSw.cell 0 _ rfl;have q1:=hSw.cell 1 _ rfl;have q2:=hSw.cell 2 _ rfl;have q3:=hSw.cell 3 _ rfl;have q4:=hSw.cell 4 _ rfl;have q5:=hSw.cell 5 _ rfl;go_simp;first|done|with_reducible rfl)
      refine ie ?_;refine ij 8 (v:=?_) ?_ ?_;rotate_left 1
      ·(intro w hSw;have q0:=hSw.cell 0 _ rfl;have q1:=hSw.cell 1 _ rfl;have q2:=hSw.cell 2 _ rfl;have q3:=hSw.cell 3 _ rfl;have q4:=hSw.cell 4 _ rfl;have q5:=hSw.cell 5 _ rfl;go_simp;first|done|with_reducible rfl)
      refine ie ?_;refine ij 10 (v:=?_) ?_ ?_;rotate_left 1
      ·(intro w hSw;have q0:=hSw.cell 0 _ rfl;have q1:=hSw.cell 1 _ rfl;have q2:=hSw.cell 2 _ rfl;have q3:=hSw.cell 3 _ rfl;have q4:=hSw.cell 4 _ rfl;have q5:=hSw.cell 5 _ rfl;go_simp;first|done|with_reducible rfl)
      refine ie ?_;refine ij 11 (v:=?_) ?_ ?_;rotate_left 1
      ·(intro w hSw;have q0:=hSw.cell 0 _ rfl;have q1:=hSw.cell 1 _ rfl;have q2:=hSw.cell 2 _ rfl;have q3:=hSw.cell 3 _ rfl;have q4:=hSw.cell 4 _ rfl;have q5:=hSw.cell 5 _ rfl;go_simp;first|done|with_reducible rfl)
      refine ie ?_;refine ij 12 (v:=?_) ?_ ?_;rotate_left 1
      ·(intro w hSw;have q0:=hSw.cell 0 _ rfl;have q1:=hSw.cell 1 _ rfl;have q2:=hSw.cell 2 _ rfl;have q3:=hSw.cell 3 _ rfl;have q4:=hSw.cell 4 _ rfl;have q5:=hSw.cell 5 _ rfl;go_simp;first|done|with_reducible rfl)
      refine ie ?_;refine ij 14 (v:=?_) ?_ ?_;rotate_left 1
      ·(intro w hSw;have q0:=hSw.cell 0 _ rfl;have q1:=hSw.cell 1 _ rfl;have q2:=hSw.cell 2 _ rfl;have q3:=hSw.cell 3 _ rfl;have q4:=hSw.cell 4 _ rfl;have q5:=hSw.cell 5 _ rfl;go_simp;first|done|with_reducible rfl)
      refine ie ?_;refine ij 15 (v:=?_) ?_ ?_;rotate_left 1
      ·(intro w hSw;have q0:=hSw.cell 0 _ rfl;have q1:=hSw.cell 1 _ rfl;have q2:=hSw.cell 2 _ rfl;have q3:=hSw.cell 3 _ rfl;have q4:=hSw.cell 4 _ rfl;have q5:=hSw.cell 5 _ rfl;go_simp;first|done|with_reducible rfl)
      refine ie ?_;refine ij 16 (v:=?_) ?_ ?_;rotate_left 1
      ·(intro w hSw;have q0:=hSw.cell 0 _ rfl;have q1:=hSw.cell 1 _ rfl;have q2:=hSw.cell 2 _ rfl;have q3:=hSw.cell 3 _ rfl;have q4:=hSw.cell 4 _ rfl;have q5:=hSw.cell 5 _ rfl;go_simp;first|done|with_reducible rfl)
      refine ie ?_;refine ij 17 (v:=?_) ?_ ?_;rotate_left 1
      ·(intro w hSw;have q0:=hSw.cell 0 _ rfl;have q1:=hSw.cell 1 _ rfl;have q2:=hSw.cell 2 _ rfl;have q3:=hSw.cell 3 _ rfl;have q4:=hSw.cell 4 _ rfl;have q5:=hSw.cell 5 _ rfl;go_simp;first|done|with_reducible rfl)
      refine ie ?_;refine rD 2 λK hK=>?_;go_simp;go_at_call 177;refine(Et wc.drew B l7 _ fl bT oD I gd).mono ?_;rintro e w8 ⟨v8,rfl,o8,hz⟩;have z8:=zD.trans hz;have y8:=yD.bz hz gm;have aM:=AS I hz.size;obtain⟨l8,aw⟩:∃z,l7++Var.put fl=z:=⟨_,rfl⟩;rw[aw]at o8;have cF:l8.length<=300200:=by rw[<-aw,AR];omega
      have cg:=AB aw;clear aw oD hz yD zD;refine hK.out _ _ (y8.bx) (λhHeld=>?_);clear hK K;refine ie ?_;refine rD 5 λK hK=>?_;go_simp;go_at_call 177;refine(Et w8 B l8 _ x.p.seq.toNat aK o8 aM gd).mono ?_;rintro e w9 ⟨v9,rfl,o9,hz⟩;have z9:=z8.trans hz;have y9:=y8.bz hz gm;have aN:=AS aM hz.size;obtain⟨l9,ax⟩:∃z,l8++Var.put x.p.seq.toNat=z:=⟨_,rfl⟩;rw[ax]at o9;have cG:l9.length<=300300:=by rw[<-ax,AR];omega
      have ch:=AB ax;clear ax o8 hz y8 z8;refine hK.out _ _ (y9.bx) (λhHeld=>?_);clear hK K;refine ie ?_;refine rD 9 λK hK=>?_;go_simp;go_at_call 177;refine(Et w9 B l9 _ rn ao o9 aN gd).mono ?_;rintro e wa ⟨va,rfl,oa,hz⟩;have za:=z9.trans hz;have ya:=y9.bz hz gm;have aO:=AS aN hz.size;obtain⟨la,ay⟩:∃z,l9++Var.put rn=z:=⟨_,rfl⟩;rw[ay]at oa;have cH:la.length<=300400:=by rw[<-ay,AR];omega
      have ci:=AB ay;clear ay o9 hz y9 z9;refine hK.out _ _ (ya.bx) (λhHeld=>?_);clear hK K;refine ie ?_;refine rD 13 λK hK=>?_;go_simp;go_at_call 177;refine(Et wa B la _ x.p.sch.toNat aL oa aO gd).mono ?_;rintro e wb ⟨vb,rfl,ob,hz⟩;have zb:=za.trans hz;have yb:=ya.bz hz gm;have aP:=AS aO hz.size;obtain⟨lb,az⟩:∃z,la++Var.put x.p.sch.toNat=z:=⟨_,rfl⟩;rw[az]at ob;have cI:lb.length<=300500:=by rw[<-az,AR];omega
      have cj:=AB az;clear az oa hz ya za;refine hK.out _ _ (yb.bx) (λhHeld=>?_);clear hK K;refine ie ?_;refine rD 18 λK hK=>?_;go_simp;go_at_call 177;refine(Et wb B lb _ x.p.stats.length a1 ob aP gd).mono ?_;rintro e we ⟨ve,rfl,oe,hz⟩;have ze:=zb.trans hz;have ye:=yb.bz hz gm;have aQ:=AS aP hz.size;obtain⟨le,aB⟩:∃z,lb++Var.put x.p.stats.length=z:=⟨_,rfl⟩;rw[aB]at oe;have cJ:le.length<=300600:=by rw[<-aB,AR];omega
      have ck:=AB aB;clear aB ob hz yb zb;refine hK.out _ _ (ye.bx) (λhHeld=>?_);clear hK K;refine ie ?_;refine tK 19 ?_;refine wpAnyH_done gh ?_ _;clear aG aH bR bS cd cf p2 p3 p4 p5 p6 ao aK aL a1 bT;have a9:=λwq (hz:Bz B we wq)=>(bP.below (ze.below aj)).below (hz.below aQ);generalize x.A=SA at *;generalize ba:x.p.stats=sts at *;have cz:=AB ba;clear ba;(go_wp2_with fail);go_loopw [4,9] (λbh iv wq=>∃(bv:Value) (j:Nat) (r:List UInt8),bh=bv/\iv = io j/\j<=sts.length/\Buf B r bv wq/\ga (r=le++CQ (sts.take j))/\Bz B we wq) (λ_ iv _=>sts.length-(intOf iv).toNat);case atStart=>exact⟨_,0,le,rfl,rfl,AU _,oe,AB (by simp[CQ]),Bz.refl _ _⟩
      case round=>
       clear oe;obtain⟨bv,j,r,rfl,rfl,hj,ob,aR,hz⟩:=hrel;have yr:=ye.bz hz gm;have bU:=AS aQ hz.size;have cK:r.length<=305000:=by
        have:=EP (f:=E2) (l:=sts.take j) (m:=178) (λs hs=>LD (H7.o s (List.mem_of_mem_take hs)).2);have h9:(sts.take j).length<=8:=by have:=H6.o;rw[BN];omega
        have cL:(sts.take j).length * 178<=8 * 178:=Cc _ h9;rw[aR.o,AR];unfold CQ;omega
       have u5:=yr.bx.cell 5 _ rfl;have cM:=H6.o;by_cases aF:j<sts.length
       .have bw:=(H7.o _ (B9 aF)).2;have aC:CQ (sts.take (j+1))=CQ (sts.take j)++E2 (sts.getD j default):=FD aF;obtain⟨sb,so,bV,cN,O⟩:=(a9 _ hz).stA aF;obtain⟨s,hs⟩:=ia (sts.getD j default);obtain⟨f0,f1,f2,f3,f4,f5,f6,f7,f8,f9⟩:=O s hs;rw[hs]at bw aC;rw[bV]at u5;obtain⟨q1,q2,q3,q4⟩:=JZ bw;obtain⟨n,hn⟩:∃n:Nat,s.nulls.toInt=(n:Int):=⟨s.nulls.toInt.toNat,gd⟩;obtain⟨sm,a2⟩:∃b,s.som=b:=⟨_,rfl⟩;obtain⟨hi,a3⟩:∃b,s.high=b:=⟨_,rfl⟩;have a4:=s.mn.kind.toNat_lt;have bW:E2 s=Var.put n++(if sm=false then Var.put 0 else if hi=true then Var.put 3++(Var.put s.mn.kind.toNat++(CA s.mn++CA s.mx)) else Var.put 1++(Var.put s.mn.kind.toNat++CA s.mn)):=by unfold E2;rw[hn,BM,a2,a3]
        rw[bW]at aC;rw[a2,a3]at q4;rw[hn]at f1;rw[a2]at f2;rw[a3]at f3;have aS:=AB aC;have bX:n<18446744073709551616:=gd;have am:s.mn.kind.toNat<18446744073709551616:=gd;have aG:IntKind.u64.wrap (n:Int)=(n:Int):=by rw[BU];omega
        have aH:(n:Int) % 18446744073709551616=(n:Int):=gd;have bR:IntKind.u64.wrap (s.mn.kind.toNat:Int)=(s.mn.kind.toNat:Int):=by rw[BU];omega
        have bS:(s.mn.kind.toNat:Int) % 18446744073709551616=(s.mn.kind.toNat:Int):=gd;have pn:=Var.put_le10 (n:=n) bX;have pk:=Var.put_le10 (n:=s.mn.kind.toNat) am;have cO:=Var.put_le10 (n:=0) gd;have cP:=Var.put_le10 (n:=1) gd;have cQ:=Var.put_le10 (n:=3) gd;have y1:=Dv wr #[io s.rows.toInt,io n,.bool sm,.bool hi,ip s.mn.kind.toNat,io s.mn.n.toInt,.string s.mn.s,ip s.mx.kind.toNat,io s.mx.n.toInt,.string s.mx.s] 201;have ad:=hI wr (.cells #[io s.rows.toInt,io n,.bool sm,.bool hi,ip s.mn.kind.toNat,io s.mn.n.toInt,.string s.mn.s,ip s.mx.kind.toNat,io s.mx.n.toInt,.string s.mx.s] 201);have o1:=ob.keep ad;have z1:=hz.trans (Bz.of ad);have aT:=AS bU ad.size;clear O hs bw aC bV hn a2 a3 bW a4 yr ob hz;(go_upto_region 24 with fail);generalize wr.alloc _=w1 at *;generalize wr.heap.size=sbx at *;clear f0 f1 f2 f3 f4 f5 f6 f7 f8 f9 ad q1 q2 q3 u5;have u1:=y1.bx.cell 1 _ rfl;(go_wp2_with fail);refine(Et w1 B r _ n bX o1 aT gd).mono ?_;rintro e wn ⟨vn,rfl,on,hz⟩;have zn:=z1.trans hz;have yn:=y1.bz hz gm;have ag:=AS aT hz.size;obtain⟨ln,aD⟩:∃z,r++Var.put n=z:=⟨_,rfl⟩;rw[aD]at on;have a1:ln.length<=305100:=by rw[<-aD,AR];omega
        have bB:=AB aD;clear aD o1 hz y1 z1;(go_upto_region 25 with fail);have u2:=yn.bx.cell 2 _ rfl;clear u1 aG aH;cases sm with
        | false=>
          (go_wp2_with fail);refine(Et wn B ln _ 0 gm on ag gd).mono ?_;rintro e wm ⟨vm,rfl,om,hz⟩;have zm:=zn.trans hz;have ym:=yn.bz hz gm;have aa:=AS ag hz.size;obtain⟨lm,G⟩:∃z,ln++Var.put 0=z:=⟨_,rfl⟩;rw[G]at om;have bY:lm.length<=305200:=by rw[<-G,AR];omega
          have aU:=AB G;clear G on hz yn zn;(go_wp2_with fail);go_roundw;case rel=>exact⟨_,j+1,lm,rfl,by go_num,aF,om,AB (by rw[aS.o,AJ trivial,<-aU.o,<-bB.o,aR.o];simp only[Az]),zm⟩
          case measure=>simp[intOf];omega
        | true=>
          obtain⟨qa,qb⟩:=q4 rfl;have pa:=Hp qa;have u3:=yn.bx.cell 3 _ rfl;cases hi with
          | true=>
            have qc:=(qb rfl).1;have pc:=Hp qc;clear q4 qb;have T:=(AC wn.heap.size wn).drew;have yD:=yn.keep T;have oD:=on.keep T;have zD:=zn.trans (Bz.of T);have I:B<=wn.drew.heap.size:=ag;clear yn on zn T;(go_upto_region 28 with fail);clear u2 u3;refine wp_region_held_drew (S:=λw'=>dH w' sbx [io s.rows.toInt,io n,.bool true,.bool true,ip s.mn.kind.toNat,io s.mn.n.toInt,.string s.mn.s,ip s.mx.kind.toNat,io s.mx.n.toInt,.string s.mx.s]) gh ?_ (λhHeld=>?_)
            .exact yD.bx
            refine ij 0 (v:=?_) ?_ ?_;rotate_left 1
            ·(intro w hSw;have q0:=hSw.cell 0 _ rfl;have q1:=hSw.cell 1 _ rfl;have q2:=hSw.cell 2 _ rfl;have q3:=hSw.cell 3 _ rfl;have q4:=hSw.cell 4 _ rfl;have q5:=hSw.cell 5 _ rfl;have q6:=hSw.cell 6 _ rfl;have q7:=hSw.cell 7 _ rfl;have q8:=hSw.cell 8 _ rfl;have q9:=hSw.cell 9 _ rfl;go_simp;first|done|with_reducible rfl)
            refine ie ?_;refine ij 2 (v:=?_) ?_ ?_;rotate_left 1
            ·(intro w hSw;have q0:=hSw.cell 0 _ rfl;have q1:=hSw.cell 1 _ rfl;have q2:=hSw.cell 2 _ rfl;have q3:=hSw.cell 3 _ rfl;have q4:=hSw.cell 4 _ rfl;have q5:=hSw.cell 5 _ rfl;have q6:=hSw.cell 6 _ rfl;have q7:=hSw.cell 7 _ rfl;have q8:=hSw.cell 8 _ rfl;have q9:=hSw.cell 9 _ rfl;go_simp;first|done|with_reducible rfl)
            refine ie ?_;refine ij 3 (v:=?_) ?_ ?_;rotate_left 1
            ·(intro w hSw;have q0:=hSw.cell 0 _ rfl;have q1:=hSw.cell 1 _ rfl;have q2:=hSw.cell 2 _ rfl;have q3:=hSw.cell 3 _ rfl;have q4:=hSw.cell 4 _ rfl;have q5:=hSw.cell 5 _ rfl;have q6:=hSw.cell 6 _ rfl;have q7:=hSw.cell 7 _ rfl;have q8:=hSw.cell 8 _ rfl;have q9:=hSw.cell 9 _ rfl;go_simp;first|done|with_reducible rfl)
            refine ie ?_;refine ij 4 (v:=?_) ?_ ?_;rotate_left 1
            ·(intro w hSw;have q0:=hSw.cell 0 _ rfl;have q1:=hSw.cell 1 _ rfl;have q2:=hSw.cell 2 _ rfl;have q3:=hSw.cell 3 _ rfl;have q4:=hSw.cell 4 _ rfl;have q5:=hSw.cell 5 _ rfl;have q6:=hSw.cell 6 _ rfl;have q7:=hSw.cell 7 _ rfl;have q8:=hSw.cell 8 _ rfl;have q9:=hSw.cell 9 _ rfl;go_simp;first|done|with_reducible rfl)
            refine ie ?_;refine ij 5 (v:=?_) ?_ ?_;rotate_left 1
            ·(intro w hSw;have q0:=hSw.cell 0 _ rfl;have q1:=hSw.cell 1 _ rfl;have q2:=hSw.cell 2 _ rfl;have q3:=hSw.cell 3 _ rfl;have q4:=hSw.cell 4 _ rfl;have q5:=hSw.cell 5 _ rfl;have q6:=hSw.cell 6 _ rfl;have q7:=hSw.cell 7 _ rfl;have q8:=hSw.cell 8 _ rfl;have q9:=hSw.cell 9 _ rfl;go_simp;first|done|with_reducible rfl)
            refine ie ?_;refine ij 7 (v:=?_) ?_ ?_;rotate_left 1
            ·(intro w hSw;have q0:=hSw.cell 0 _ rfl;have q1:=hSw.cell 1 _ rfl;have q2:=hSw.cell 2 _ rfl;have q3:=hSw.cell 3 _ rfl;have q4:=hSw.cell 4 _ rfl;have q5:=hSw.cell 5 _ rfl;have q6:=hSw.cell 6 _ rfl;have q7:=hSw.cell 7 _ rfl;have q8:=hSw.cell 8 _ rfl;have q9:=hSw.cell 9 _ rfl;go_simp;first|done|with_reducible rfl)
            refine ie ?_;refine ij 8 (v:=?_) ?_ ?_;rotate_left 1
            ·(intro w hSw;have q0:=hSw.cell 0 _ rfl;have q1:=hSw.cell 1 _ rfl;have q2:=hSw.cell 2 _ rfl;have q3:=hSw.cell 3 _ rfl;have q4:=hSw.cell 4 _ rfl;have q5:=hSw.cell 5 _ rfl;have q6:=hSw.cell 6 _ rfl;have q7:=hSw.cell 7 _ rfl;have q8:=hSw.cell 8 _ rfl;have q9:=hSw.cell 9 _ rfl;go_simp;first|done|with_reducible rfl)
            refine ie ?_;refine ij 10 (v:=?_) ?_ ?_;rotate_left 1
            ·(intro w hSw;have q0:=hSw.cell 0 _ rfl;have q1:=hSw.cell 1 _ rfl;have q2:=hSw.cell 2 _ rfl;have q3:=hSw.cell 3 _ rfl;have q4:=hSw.cell 4 _ rfl;have q5:=hSw.cell 5 _ rfl;have q6:=hSw.cell 6 _ rfl;have q7:=hSw.cell 7 _ rfl;have q8:=hSw.cell 8 _ rfl;have q9:=hSw.cell 9 _ rfl;go_simp;first|done|with_reducible rfl)
            refine ie ?_;refine ij 11 (v:=?_) ?_ ?_;rotate_left 1
            ·(intro w hSw;have q0:=hSw.cell 0 _ rfl;have q1:=hSw.cell 1 _ rfl;have q2:=hSw.cell 2 _ rfl;have q3:=hSw.cell 3 _ rfl;have q4:=hSw.cell 4 _ rfl;have q5:=hSw.cell 5 _ rfl;have q6:=hSw.cell 6 _ rfl;have q7:=hSw.cell 7 _ rfl;have q8:=hSw.cell 8 _ rfl;have q9:=hSw.cell 9 _ rfl;go_simp;first|done|with_reducible rfl)
            refine ie ?_;refine rD 1 λK hK=>?_;go_simp;go_at_call 177;refine(Et wn.drew B ln _ 3 gm oD I gd).mono ?_;rintro e wm ⟨vm,rfl,om,hz⟩;have zm:=zD.trans hz;have ym:=yD.bz hz gm;have aa:=AS I hz.size;obtain⟨lm,G⟩:∃z,ln++Var.put 3=z:=⟨_,rfl⟩;rw[G]at om;have bY:lm.length<=305200:=by rw[<-G,AR];omega
            have aU:=AB G;clear G oD hz yD zD;refine hK.out _ _ (ym.bx) (λhHeld=>?_);clear hK K;refine ie ?_;refine rD 6 λK hK=>?_;go_simp;go_at_call 177;refine(Et wm B lm _ s.mn.kind.toNat am om aa gd).mono ?_;rintro e wf ⟨vf,rfl,of,hz⟩;have zf:=zm.trans hz;have yf:=ym.bz hz gm;have ab:=AS aa hz.size;obtain⟨lf,V⟩:∃z,lm++Var.put s.mn.kind.toNat=z:=⟨_,rfl⟩;rw[V]at of;have cn:lf.length<=305300:=by rw[<-V,AR];omega
            have bC:=AB V;clear V om hz ym zm;refine hK.out _ _ (yf.bx) (λhHeld=>?_);clear hK K;refine ie ?_;refine rD 9 λK hK=>?_;go_simp;go_at_call 179;refine(ML wf B lf _ s.mn qa of ab gd).mono ?_;rintro e wg ⟨vg,rfl,og,hz⟩;have zg:=zf.trans hz;have yg:=yf.bz hz gm;have ap:=AS ab hz.size;obtain⟨lg,Z⟩:∃z,lf++CA s.mn=z:=⟨_,rfl⟩;rw[Z]at og;have co:lg.length<=305500:=by rw[<-Z,AR];omega
            have bD:=AB Z;clear Z of hz yf zf;refine hK.out _ _ (yg.bx) (λhHeld=>?_);clear hK K;refine ie ?_;refine rD 12 λK hK=>?_;go_simp;go_at_call 179;refine(ML wg B lg _ s.mx qc og ap gd).mono ?_;rintro e wh ⟨vh,rfl,oh,hz⟩;have zh:=zg.trans hz;have yh:=yg.bz hz gm;have cp:=AS ap hz.size;obtain⟨lh,aE⟩:∃z,lg++CA s.mx=z:=⟨_,rfl⟩;rw[aE]at oh;have cR:lh.length<=305700:=by rw[<-aE,AR];omega
            have cq:=AB aE;clear aE og hz yg zg;refine hK.out _ _ (yh.bx) (λhHeld=>?_);clear hK K;refine ie ?_;refine tK 13 ?_;refine wpAnyH_done gh ?_ _;(go_wp2_with fail);go_roundw;case rel=>exact⟨_,j+1,lh,rfl,by go_num,aF,oh,AB (by rw[aS.o,AE gm,AJ rfl,<-cq.o,<-bD.o,<-bC.o,<-aU.o,<-bB.o,aR.o];simp only[Az]),zh⟩
            case measure=>simp[intOf];omega
          | false=>
            clear q4 qb;have T:=(AC wn.heap.size wn).drew;have yD:=yn.keep T;have oD:=on.keep T;have zD:=zn.trans (Bz.of T);have I:B<=wn.drew.heap.size:=ag;clear yn on zn T;(go_upto_region 29 with fail);clear u2 u3;refine wp_region_held_drew (S:=λw'=>dH w' sbx [io s.rows.toInt,io n,.bool true,.bool false,ip s.mn.kind.toNat,io s.mn.n.toInt,.string s.mn.s,ip s.mx.kind.toNat,io s.mx.n.toInt,.string s.mx.s]) gh ?_ (λhHeld=>?_)
            .exact yD.bx
            refine ij 0 (v:=?_) ?_ ?_;rotate_left 1
            ·(intro w hSw;have q0:=hSw.cell 0 _ rfl;have q1:=hSw.cell 1 _ rfl;have q2:=hSw.cell 2 _ rfl;have q3:=hSw.cell 3 _ rfl;have q4:=hSw.cell 4 _ rfl;have q5:=hSw.cell 5 _ rfl;have q6:=hSw.cell 6 _ rfl;have q7:=hSw.cell 7 _ rfl;have q8:=hSw.cell 8 _ rfl;have q9:=hSw.cell 9 _ rfl;go_simp;first|done|with_reducible rfl)
            refine ie ?_;refine ij 2 (v:=?_) ?_ ?_;rotate_left 1
            ·(intro w hSw;have q0:=hSw.cell 0 _ rfl;have q1:=hSw.cell 1 _ rfl;have q2:=hSw.cell 2 _ rfl;have q3:=hSw.cell 3 _ rfl;have q4:=hSw.cell 4 _ rfl;have q5:=hSw.cell 5 _ rfl;have q6:=hSw.cell 6 _ rfl;have q7:=hSw.cell 7 _ rfl;have q8:=hSw.cell 8 _ rfl;have q9:=hSw.cell 9 _ rfl;go_simp;first|done|with_reducible rfl)
            refine ie ?_;refine ij 3 (v:=?_) ?_ ?_;rotate_left 1
            ·(intro w hSw;have q0:=hSw.cell 0 _ rfl;have q1:=hSw.cell 1 _ rfl;have q2:=hSw.cell 2 _ rfl;have q3:=hSw.cell 3 _ rfl;have q4:=hSw.cell 4 _ rfl;have q5:=hSw.cell 5 _ rfl;have q6:=hSw.cell 6 _ rfl;have q7:=hSw.cell 7 _ rfl;have q8:=hSw.cell 8 _ rfl;have q9:=hSw.cell 9 _ rfl;go_simp;first|done|with_reducible rfl)
            refine ie ?_;refine ij 4 (v:=?_) ?_ ?_;rotate_left 1
            ·(intro w hSw;have q0:=hSw.cell 0 _ rfl;have q1:=hSw.cell 1 _ rfl;have q2:=hSw.cell 2 _ rfl;have q3:=hSw.cell 3 _ rfl;have q4:=hSw.cell 4 _ rfl;have q5:=hSw.cell 5 _ rfl;have q6:=hSw.cell 6 _ rfl;have q7:=hSw.cell 7 _ rfl;have q8:=hSw.cell 8 _ rfl;have q9:=hSw.cell 9 _ rfl;go_simp;first|done|with_reducible rfl)
            refine ie ?_;refine ij 5 (v:=?_) ?_ ?_;rotate_left 1
            ·(intro w hSw;have q0:=hSw.cell 0 _ rfl;have q1:=hSw.cell 1 _ rfl;have q2:=hSw.cell 2 _ rfl;have q3:=hSw.cell 3 _ rfl;have q4:=hSw.cell 4 _ rfl;have q5:=hSw.cell 5 _ rfl;have q6:=hSw.cell 6 _ rfl;have q7:=hSw.cell 7 _ rfl;have q8:=hSw.cell 8 _ rfl;have q9:=hSw.cell 9 _ rfl;go_simp;first|done|with_reducible rfl)
            refine ie ?_;refine ij 7 (v:=?_) ?_ ?_;rotate_left 1
            ·(intro w hSw;have q0:=hSw.cell 0 _ rfl;have q1:=hSw.cell 1 _ rfl;have q2:=hSw.cell 2 _ rfl;have q3:=hSw.cell 3 _ rfl;have q4:=hSw.cell 4 _ rfl;have q5:=hSw.cell 5 _ rfl;have q6:=hSw.cell 6 _ rfl;have q7:=hSw.cell 7 _ rfl;have q8:=hSw.cell 8 _ rfl;have q9:=hSw.cell 9 _ rfl;go_simp;first|done|with_reducible rfl)
            refine ie ?_;refine ij 8 (v:=?_) ?_ ?_;rotate_left 1
            ·(intro w hSw;have q0:=hSw.cell 0 _ rfl;have q1:=hSw.cell 1 _ rfl;have q2:=hSw.cell 2 _ rfl;have q3:=hSw.cell 3 _ rfl;have q4:=hSw.cell 4 _ rfl;have q5:=hSw.cell 5 _ rfl;have q6:=hSw.cell 6 _ rfl;have q7:=hSw.cell 7 _ rfl;have q8:=hSw.cell 8 _ rfl;have q9:=hSw.cell 9 _ rfl;go_simp;first|done|with_reducible rfl)
            refine ie ?_;refine rD 1 λK hK=>?_;go_simp;go_at_call 177;refine(Et wn.drew B ln _ 1 gm oD I gd).mono ?_;rintro e wm ⟨vm,rfl,om,hz⟩;have zm:=zD.trans hz;have ym:=yD.bz hz gm;have aa:=AS I hz.size;obtain⟨lm,G⟩:∃z,ln++Var.put 1=z:=⟨_,rfl⟩;rw[G]at om;have bY:lm.length<=305200:=by rw[<-G,AR];omega
            have aU:=AB G;clear G oD hz yD zD;refine hK.out _ _ (ym.bx) (λhHeld=>?_);clear hK K;refine ie ?_;refine rD 6 λK hK=>?_;go_simp;go_at_call 177;refine(Et wm B lm _ s.mn.kind.toNat am om aa gd).mono ?_;rintro e wf ⟨vf,rfl,of,hz⟩;have zf:=zm.trans hz;have yf:=ym.bz hz gm;have ab:=AS aa hz.size;obtain⟨lf,V⟩:∃z,lm++Var.put s.mn.kind.toNat=z:=⟨_,rfl⟩;rw[V]at of;have cn:lf.length<=305300:=by rw[<-V,AR];omega
            have bC:=AB V;clear V om hz ym zm;refine hK.out _ _ (yf.bx) (λhHeld=>?_);clear hK K;refine ie ?_;refine rD 9 λK hK=>?_;go_simp;go_at_call 179;refine(ML wf B lf _ s.mn qa of ab gd).mono ?_;rintro e wg ⟨vg,rfl,og,hz⟩;have zg:=zf.trans hz;have yg:=yf.bz hz gm;have ap:=AS ab hz.size;obtain⟨lg,Z⟩:∃z,lf++CA s.mn=z:=⟨_,rfl⟩;rw[Z]at og;have co:lg.length<=305500:=by rw[<-Z,AR];omega
            have bD:=AB Z;clear Z of hz yf zf;refine hK.out _ _ (yg.bx) (λhHeld=>?_);clear hK K;refine ie ?_;refine tK 10 ?_;refine wpAnyH_done gh ?_ _;(go_wp2_with fail);go_roundw;case rel=>exact⟨_,j+1,lg,rfl,by go_num,aF,og,AB (by rw[aS.o,AE gm,AE gm,<-bD.o,<-bC.o,<-aU.o,<-bB.o,aR.o];simp only[Az]),zg⟩
            case measure=>simp[intOf];omega
       have cr:ga (r=p0++Cj (ls.take (k+1))):=AB (by
        have e9:sts.take j=sts:=CF gd;rw[b1.o,HE.o,aR.o,e9,<-ck.o,<-cj.o,<-ci.o,<-ch.o,<-cg.o,<-cc.o,hq.o];simp only[Az])
       have bZ:=b7.o.trans ((ze.trans hz).below aj);clear yr a9;(go_wp2_with fail);go_roundw;case rel=>exact⟨_,k+1,r,rfl,by go_num,aY,bp,ob,cr,bZ⟩
       case measure=>simp[intOf];omega
  have a4:k=ls.length:=gd;have be:ga (DW [] ls=true):=AB (Ok λj hj=>by rw[CN];exact ae.o j gd);have HQ:ga (q=wrE ls):=AB (by
   rw[hq.o,a4,E8,<-b0.o,<-bG];rfl)
  obtain⟨bA,bc,rfl⟩:=BK ob;have ct:=Ay ob;have cS:=Ol (JX be.o) gd;have cu:q.length<=1000000:=gd;clear a4;go_wp2_with fail
  rw[HB.o]at af;refine(Rn wr wr.heap.size q.length bc bA q ct (AD _) cu).mono ?_;rintro e w9 ⟨v9,rfl,hown9,hb9⟩;go_wp2_with fail
  go_ret2;refine⟨AM af af.size hb9,.inl ⟨Oy gd be.o,v9,rfl,?_⟩⟩;unfold Bq;rw[<-HQ.o];exact B4 hown9 af.size
theorem Rt (w A c l)(hr:EnR w w.heap.size A c l)(hms:∀x∈l,x.p.name.size<=9223372036854775807):Calls prog 124 #[.slice A l.length c] w (Jc w (l.map El.p)):=Zv w A c l _ rfl hr hms
theorem Zy (w A1 A2 c1 c2 l1 l2)(h1:EnR w w.heap.size A1 c1 l1)(h2:EnR w w.heap.size A2 c2 l2)(he:l1.map El.p=l2.map El.p):
 Calls prog 33 #[.slice A1 l1.length c1,.slice A2 l2.length c2] w (FQ w (.bool true)):=by
 have ai:l1.length<=9223372036854775807:=by have h3:=h1.row.le;have h4:=h1.row.cap;unfold maxLen at h4;omega
 have ab:l2.length=l1.length:=by have:=congrArg List.length he;simpa using this.symm
 have ad:∀k,(l2.getD k default).p=(l1.getD k default).p:=λk=>by rw[<-Ht,<-Ht,he]
 rw[ab];clear he;go_enter func33,ntmps33;go_wp2_with fail
 go_loopw [5] (λiv wr=>∃k:Nat,iv = io k/\k<=l1.length/\Below w.heap.size w wr) (λiv _=>l1.length-(intOf iv).toNat);case atStart=>exact⟨0,rfl,AU _,AC _ _⟩
 case round=>
  obtain⟨k,rfl,hk,ae⟩:=hrel;by_cases aa:k<l1.length
  .have Z:k<l2.length:=gd;obtain⟨T,o1,rfl,G,af⟩:=h1.row.elA aa;obtain⟨V,o2,rfl,I,ag⟩:=h2.row.elA Z;have hg:=ad k;have i1:=h1.ins (l1.getD k default) (B9 aa);have i2:=h2.ins (l2.getD k default) (B9 Z);obtain⟨x,hx⟩:=ia (l1.getD k default);obtain⟨y,hy⟩:=ia (l2.getD k default);obtain⟨a0,a1,a2,a3,a4,a5⟩:=af x hx;obtain⟨b0,b1,b2,b3,b4,b5⟩:=ag y hy;rw[hx]at i1 hg;rw[hy]at i2 hg;rw[hg]at b0 b1 b2 b3 b4 b5 i2;have O:Below w.heap.size w wr.drew:=ae.drew;clear af ag hx hy hg;(go_upto_region 6 with fail);refine wp_region_held_drew (S:=λw'=>Below w.heap.size w w') gh ?_ (λhHeld=>?_)
   .exact O
   refine tK 0 ?_;refine tK 1 ?_;refine tK 2 ?_;refine ij 3 (v:=?_) ?_ ?_;rotate_left 1
   ·(intro w' hSw;have q0:=(hSw.cell (p:=gX T (o1+k * 6)) G).trans a0;have q1:=(hSw.cell (p:=gX T (o1+k * 6+1)) G).trans a1;have q2:=(hSw.cell (p:=gX T (o1+k * 6+2)) G).trans a2;have q3:=(hSw.cell (p:=gX T (o1+k * 6+3)) G).trans a3;have q4:=(hSw.cell (p:=gX T (o1+k * 6+4)) G).trans a4;have q5:=(hSw.cell (p:=gX T (o1+k * 6+5)) G).trans a5;go_simp;first|done|with_reducible rfl)
   refine ie ?_;refine tK 4 ?_;refine tK 5 ?_;refine tK 6 ?_;refine ij 7 (v:=?_) ?_ ?_;rotate_left 1
   ·(intro w' hSw;have q0:=(hSw.cell (p:=gX V (o2+k * 6)) I).trans b0;have q1:=(hSw.cell (p:=gX V (o2+k * 6+1)) I).trans b1;have q2:=(hSw.cell (p:=gX V (o2+k * 6+2)) I).trans b2;have q3:=(hSw.cell (p:=gX V (o2+k * 6+3)) I).trans b3;have q4:=(hSw.cell (p:=gX V (o2+k * 6+4)) I).trans b4;have q5:=(hSw.cell (p:=gX V (o2+k * 6+5)) I).trans b5;go_simp;first|done|with_reducible rfl)
   refine ie ?_;refine rD 8 λK hK=>?_;go_simp;go_at_call 75;refine(Zx wr.drew x.p x.A y.A x.c y.c ((i1.below O).more O.size) ((i2.below O).more O.size)).mono ?_;rintro e w3 ⟨rfl,hb3⟩;have ah:=AM O O.size hb3;refine hK.out _ _ ah (λhHeld=>?_);clear hK K;refine ie ?_;refine tK 9 ?_;refine wpAnyH_done gh ?_ _;(go_wp2_with fail);go_roundw;case rel=>exact⟨k+1,by go_num,aa,ah⟩
   case measure=>simp[intOf];omega
  go_wp2_with fail
  go_ret;exact⟨rfl,ae⟩
