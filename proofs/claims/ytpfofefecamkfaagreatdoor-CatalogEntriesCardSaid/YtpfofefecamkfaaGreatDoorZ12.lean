/- For CatalogEntries. -/
import Derived.Test.YtpfofefecamkfaaGreatDoorZ2
import Derived.Test.YtpfofefecamkfaaGreatDoorZ11
namespace Go.Proofs.YtpfofefecamkfaaGreatDoor
open Go.RowKit Proofs.Tryz
set_option maxRecDepth 100000
set_option maxHeartbeats 16000000
set_option linter.all false
theorem Ux (w x SA sc)(hr:Rd w w.heap.size 10 SA x.stats.length sc (BH x.stats)):Calls prog 102 #[.agg #[.string x.name,.bool x.keys,il x.seq.toNat,io x.rows.toInt,im x.sch.toNat,.slice SA x.stats.length sc]] w (FQ w (.bool (CP x))):=by
 rw[Ou];have HN:=λw=>Us w x.name ;have:=x.seq.toNat_lt;have:=x.sch.toNat_lt;have:x.stats.length<=9223372036854775807:=by have h1:=hr.le;have h2:=hr.cap;unfold maxLen at h2;omega
 generalize Aq x.name=c1 at *;generalize x.name=nm at *;generalize x.seq.toNat=sq at *;generalize x.rows.toInt=rw at *;generalize x.keys=kb at *;generalize x.sch.toNat=sc32 at *;generalize x.stats=L at *;obtain⟨R,hR⟩:=ia (Hs c1 sq rw kb sc32 L);rw[hR];unfold Hs at hR;obtain⟨x0,ab⟩:=gZ w #[.string nm,.bool kb,il sq,io rw,im sc32,.slice SA L.length sc] 97;go_enter func102,ntmps102;go_wp2_with fail
 generalize w.alloc _=w1 at *;have aj:ga (∀w',Below w.heap.size w w'->Rd w' w'.heap.size 10 SA L.length sc (BH L)):=AB (λw' hb=>(hr.below hb).more hb.size);obtain⟨bx,ag⟩:∃b,b=w.heap.size:=⟨_,rfl⟩;rw[<-ag]at x0 ⊢;clear hr ag;refine(HN w1).mono ?_;rintro e w2 ⟨rfl,hb2⟩;have X2:=x0.keep hb2 x0.z;have O:=AM ab ab.size hb2;clear x0 ab hb2 HN;cases c1 with
 | false=>
   obtain rfl:R=false:=by rw[<-hR];simp
   clear hR;(go_wp2_with fail);go_ret;exact⟨rfl,O⟩
 | true=>
 obtain⟨-,-,c2,c3⟩:=X2.c4;by_cases h1:1073741824<sq
 .obtain rfl:R=false:=by rw[<-hR];simp[h1]
  have t1:=gG 1073741824 sq;clear hR;go_wp2_with fail
  go_ret;exact⟨rfl,O⟩
 have t1:=gH 1073741824 sq;by_cases h2:rw<0
 .obtain rfl:R=false:=by rw[<-hR];simp[h1,h2]
  have t2:decide (rw<0)=true:=AF h2;clear hR;go_wp2_with fail
  go_ret;exact⟨rfl,O⟩
 have t2:decide (rw<0)=false:=AG h2;by_cases h3:256<rw
 .obtain rfl:R=false:=by rw[<-hR];simp[h1,h2,h3]
  have t3:decide (256<rw)=true:=AF h3;clear hR;go_wp2_with fail
  go_ret;exact⟨rfl,O⟩
 have t3:decide (256<rw)=false:=AG h3;simp only[h1,h2,h3,if_false,Bool.true_eq_false]at hR;have HR:=AB hR;clear hR h1 h2 h3;have c5:=X2.cell 5 _ rfl;go_wp2_with fail
 clear c2 c3 c5 t1 t2 t3;go_loopw [27] (λiv wr=>∃k:Nat,iv = io k/\k<=L.length/\ga ((L.take k).all (okS rw)=true)/\dH wr bx [.string nm,.bool kb,il sq,io rw,im sc32,.slice SA L.length sc]/\Below w.heap.size w wr) (λiv _=>L.length-(intOf iv).toNat);case atStart=>exact⟨0,rfl,AU _,AB rfl,X2,O⟩
 case round=>
  clear X2 O;obtain⟨k,rfl,hk,G,X,hB⟩:=hrel;have c3:=X.cell 3 _ rfl;by_cases V:k<L.length
  .have ah:=aj.o _ hB;obtain⟨gb,off,ad,ax,I⟩:=ah.stA V;obtain⟨s,hs⟩:=ia (L.getD k default);obtain⟨f0,f1,f2,f3,f4,f5,f6,f7,f8,f9⟩:=I s hs;have HS:=AB hs;obtain⟨s9,ae⟩:=gZ wr #[io s.rows.toInt,io s.nulls.toInt,.bool s.som,.bool s.high,ip s.mn.kind.toNat,io s.mn.n.toInt,.string s.mn.s,ip s.mx.kind.toNat,io s.mx.n.toInt,.string s.mx.s] 201;have X9:=X.keep ae X.z;have ak:=AM hB hB.size ae;have HX:=gR X9 ak;have ai:=AB G.o;clear hs ah I ae hB G;rw[ad];have am:=AB ad;clear ad;by_cases T:s.rows.toInt=rw
   .have t5:(s.rows.toInt != rw)=false:=by rw[bne_eq_false_iff_eq];exact T
    have ao:=AB T;clear T X X9;have c9:=HX.o.1.cell 3 _ rfl;have d0:=s9.cell 0 _ rfl;have ap:=c9;(go_wp2_with fail);refine(Uw _ s).mono ?_;rintro e w9 ⟨rfl,hb⟩;have aq:=AB (HX.o.1.keep hb HX.o.1.z);have aa:=AM HX.o.2 HX.o.2.size hb;clear f0 f1 f2 f3 f4 f5 f6 f7 f8 f9 c3 c9 d0 ap s9 hb;cases Z:Dh s with
    | false=>
      obtain rfl:R=false:=by rw[<-HR.o,Jb V (by rw[HS.o];unfold okS;rw[Z];simp)];simp
      clear Z;(go_wp2_with fail);go_ret;exact⟨rfl,aa⟩
    | true=>
      have ar:=AB (Ov V ai.o (by rw[HS.o];unfold okS;rw[Z,AF ao.o];rfl));clear Z;(go_wp2_with fail);go_roundw;case rel=>exact⟨k+1,by go_num,V,AB ar.o,by rw[<-am.o];exact aq.o,aa⟩
      case measure=>simp[intOf];omega
   have t5:(s.rows.toInt != rw)=true:=by rw[Am];exact T
   obtain rfl:R=false:=by rw[<-HR.o,Jb V (by rw[HS.o];unfold okS;rw[AG T];rfl)];simp
   clear T X X9;have c9:=HX.o.1.cell 3 _ rfl;(go_wp2_with fail);go_ret;exact⟨rfl,HX.o.2⟩
  have hR:=HR.o;have e0:L.take k=L:=by rw[show k=L.length by omega,E8]
  have af:=G.o;rw[e0]at af;rw[af]at hR;simp only[Bool.true_eq_false,if_false]at hR;obtain⟨-,c1,-,-,c4,c5⟩:=X.c6;clear G e0 af;cases kb with
  | true=>
    simp only[if_true]at hR;by_cases g0:sc32=0
    .have t6:=gK sc32 0;by_cases g1:L.length=1
     .have t7:=gK L.length 1;obtain rfl:R=true:=by rw[<-hR];simp[g0,g1]
      clear hR g0 g1;(go_wp2_with fail);go_ret;exact⟨rfl,hB⟩
     have t7:=gL L.length 1;obtain rfl:R=false:=by rw[<-hR];simp[g0,g1]
     clear hR g0 g1;(go_wp2_with fail);go_ret;exact⟨rfl,hB⟩
    have t6:=gL sc32 0;obtain rfl:R=false:=by rw[<-hR];simp[g0]
    clear hR g0;(go_wp2_with fail);go_ret;exact⟨rfl,hB⟩
  | false=>
    simp only[EK,if_false]at hR;by_cases g0:sc32=0
    .have t6:=gO sc32 0;obtain rfl:R=false:=by rw[<-hR];simp[g0]
     clear hR g0;(go_wp2_with fail);go_ret;exact⟨rfl,hB⟩
    have t6:=gM sc32 0;by_cases g1:1<=L.length
    .have t7:=gI 1 L.length;by_cases g2:L.length<=8
     .have t8:=gI L.length 8;obtain rfl:R=true:=by rw[<-hR,AG g0,AF g1,AF g2];rfl
      clear hR g0 g1 g2;(go_wp2_with fail);go_ret;exact⟨rfl,hB⟩
     have t8:=gJ L.length 8;obtain rfl:R=false:=by rw[<-hR,AG g0,AF g1,AG g2];rfl
     clear hR g0 g1 g2;(go_wp2_with fail);go_ret;exact⟨rfl,hB⟩
    have t7:=gJ 1 L.length;obtain rfl:R=false:=by rw[<-hR,AG g0,AG g1];rfl
    clear hR g0 g1;(go_wp2_with fail);go_ret;exact⟨rfl,hB⟩
theorem Uz (w b B q l)(h:WG w b B q l)(n:Nat)(h1:n<18446744073709551616)(hl:l.length<=900000):
 Calls prog 101 #[iq b 0,il n] w (Gk w b B (l++Var.put n)):=by
 have hp:=Var.put_le10 (n:=n) h1;have I:=put_pos n;have c0:=h.c0;obtain⟨ti,ad,V,Z,aa⟩:=DZ As.inf;obtain⟨p,ab⟩:=ia (Var.put n);have HV:∀w,Calls prog 153 #[il n] w (EA w p):=λw=>by rw[<-ab];have:=Eg (n:Int) w gd gd;rw[BM]at this;exact this
 rw[ab]at hp I ⊢;clear ab h1;go_enter func101,ntmps101;go_upto_region 0 with fail
 refine wp_region_held_drew (S:=λ_=>True) gh ?_ (λhHeld=>?_)
 .trivial
 refine tK 0 ?_;refine tK 1 ?_;refine tK 2 ?_;refine tK 3 ?_;refine tK 5 ?_;refine wpAnyH_ready (rs:=[4,6]) gh gj ?_;refine AllReadyH.cons rfl (λK hK=>?_) (AllReadyH.cons rfl (λK hK=>?_) (AllReadyH.nil))
 .go_simp;refine hK.out _ _ trivial (λhHeld=>?_);clear hK K;refine ie ?_;refine rD 6 λK hK=>?_;go_simp;go_at_call 153;refine(HV w.drew).mono ?_;rintro e w1 ⟨v1,rfl,hown1,hb1⟩;obtain⟨g1,k1,rfl,ae,af⟩:=hown1.form I;have HW:=gS (h.drew.keep hb1) ((Wz.refl b B w).drew.trans (.of hb1)) (Gl hown1);have c1:=(h.drew.keep hb1).c0;clear hb1 hown1;refine hK.out _ _ trivial (λhHeld=>?_);clear hK K;refine ie ?_;refine rD 7 λK hK=>?_;refine step_append_grows rfl (.tmp 8) (.tmp 10) 55 rfl 5 ti _ 1 1 underlying55 ad V Z aa As.zs gm (gY q 0) l.length l.length (AO l) (by simp[Act.eval,Act.put]) gj (by rw[Bt,Nat.mul_one]) HW.o.1.olds _ p.length k1 (AO p) (by simp[Act.eval,Act.put]) (by rw[Bt,Nat.mul_one]) HW.o.2.2 (Bb _) gd gq gd ?_;intro v8 w8 G O;obtain⟨g,cap,rfl,d0,d1,hG,hZ⟩:=HW.o.1.put I G O;have T:=gR hG ((HW.o.2.1).trans hZ);clear G O hG hZ;refine hK.out _ _ trivial (λhHeld=>?_);clear hK K;refine ie ?_;refine tK 8 ?_;refine tK 9 ?_;refine rD 10 λK hK=>?_;go_simp;refine hK.out _ _ trivial (λhHeld=>?_);clear hK K;refine ie ?_;refine wpAnyH_done gh ?_ _;go_wp2_with fail
  go_end0;exact⟨rfl,⟨_,_,T.o.1⟩,T.o.2⟩
 go_simp;go_at_call 153;refine(HV w.drew).mono ?_;rintro e w1 ⟨v1,rfl,hown1,hb1⟩;obtain⟨g1,k1,rfl,ae,af⟩:=hown1.form I;have HW:=gS (h.drew.keep hb1) ((Wz.refl b B w).drew.trans (.of hb1)) (Gl hown1);have c1:=(h.drew.keep hb1).c0;clear hb1 hown1;refine hK.out _ _ trivial (λhHeld=>?_);clear hK K;refine ie ?_;refine rD 4 λK hK=>?_;go_simp;refine hK.out _ _ trivial (λhHeld=>?_);clear hK K;refine ie ?_;refine rD 7 λK hK=>?_;refine step_append_grows rfl (.tmp 8) (.tmp 10) 55 rfl 5 ti _ 1 1 underlying55 ad V Z aa As.zs gm (gY q 0) l.length l.length (AO l) (by simp[Act.eval,Act.put]) gj (by rw[Bt,Nat.mul_one]) HW.o.1.olds _ p.length k1 (AO p) (by simp[Act.eval,Act.put]) (by rw[Bt,Nat.mul_one]) HW.o.2.2 (Bb _) gd gq gd ?_;intro v8 w8 G O;obtain⟨g,cap,rfl,d0,d1,hG,hZ⟩:=HW.o.1.put I G O;have T:=gR hG ((HW.o.2.1).trans hZ);clear G O hG hZ;refine hK.out _ _ trivial (λhHeld=>?_);clear hK K;refine ie ?_;refine tK 8 ?_;refine tK 9 ?_;refine rD 10 λK hK=>?_;go_simp;refine hK.out _ _ trivial (λhHeld=>?_);clear hK K;refine ie ?_;refine wpAnyH_done gh ?_ _;go_wp2_with fail
 go_end0;exact⟨rfl,⟨_,_,T.o.1⟩,T.o.2⟩
theorem V0 (w A c l ls)(hls:ls=l.map El.p)(hr:EnR w w.heap.size A c l)(ht:Dx w):Calls prog 44 #[.slice A l.length c] w (Jc w ls):=by
 have HT:=AB ht;have aG:=ht.pos;clear ht;by_cases aj:64<l.length
 .have t1:=gG 64 l.length;have he:=LK (l:=ls) (by simpa [hls]using aj);clear aj;go_enter func44,ntmps44;go_wp2_with fail
  go_ret2;exact⟨AC _ _,.inr ⟨by rw[he];decide,by rw[he];rfl⟩⟩
 have t1:=gH 64 l.length;have a7:l.length<=64:=gd;have ba:=AB aj;clear aj;have be:=@run_makeMap prog;have kc:=Lib.run_convert_bytes_const (P:=prog) w 55 5 #[ip 77,ip 70,ip 49] 3 3 underlying55 underlying5;have bg:IntKind.u64.wrap (l.length:Int)=(l.length:Int):=by rw[BU];omega
 have bh:(l.length:Int) % 18446744073709551616=(l.length:Int):=gd;have aH:=hI w (.cells #[ip 77,ip 70,ip 49] 5 (3,4));have aI:∀j u,(AO mf1)[j]? = some u->(w.alloc (.cells #[ip 77,ip 70,ip 49] 5 (3,4))).cell? (gX w.heap.size j)=some u:=λj u hj=>by
  have e:(#[Value.int .u8 77,ip 70,ip 49]:Array Value).toList=AO mf1:=rfl;rw[World.cell?_alloc_mark,<-Array.getElem?_toList,e];exact hj
 have az:w.heap.size<(w.alloc (.cells #[ip 77,ip 70,ip 49] 5 (3,4))).heap.size:=gj;go_enter func44,ntmps44;go_wp2_with fail
 have eb:(w.alloc (.cells #[ip 77,ip 70,ip 49] 5 (3,4))).heap.size=w.heap.size+1:=gj;generalize w.alloc (.cells #[ip 77,ip 70,ip 49] 5 (3,4))=w1 at *;have x2:=Dv w1 #[.slice (gY w.heap.size 0) 3 3] 180;have aB:=aH.alloc (Ad az) (.cells #[.slice (gY w.heap.size 0) 3 3] 180);have ap:=hI w1 (.cells #[.slice (gY w.heap.size 0) 3 3] 180);rw[eb]at x2;have hG:WG (w1.alloc (.cells #[.slice (gY w.heap.size 0) 3 3] 180)) (w.heap.size+1) w.heap.size w.heap.size mf1:=⟨x2,gt,λj u hj=>(ap.cell (p:=gX w.heap.size j) az).trans (aI j u hj),gt⟩;generalize w1.alloc _=w2 at *;obtain⟨B,hB⟩:=ib w.heap.size;rw[<-hB]at hG aB hr ⊢;have HB:=AB hB;clear kc x2 ap aI az eb aH hB;clear w1;refine(Uz w2 (B+1) B B mf1 hG l.length gd gm).mono ?_;rintro e w3 ⟨rfl,⟨A3,c3,h3⟩,hz3⟩;have aq:=hG.le;have aJ:Below B w w3:=aB.trans (hz3.below gd (AD _) aq);have aK:=Ox w3;have ar:=hI w3 (.map #[] 0);have h4:=h3.keep ar;have aL:Below B w (w3.alloc (.map #[] 0)):=aJ.alloc h3.le (.map #[] 0);have bi:B+1<w3.heap.size:=h3.z;clear hG hz3 aq aB h3 aJ ar;go_wp2_with fail
 generalize w3.alloc _=w4 at *;generalize w3.heap.size=mb at *;have aM:ls.length=l.length:=by rw[hls,Ae]
 have aN:∀k,ls.getD k default=(l.getD k default).p:=λk=>by rw[hls];exact Ht l k
 clear hls;obtain⟨p0,ak⟩:=ia (mf1++Var.put l.length);have a8:p0.length<=13:=by
  have:=Var.put_le10 (n:=l.length) gd;have e3:mf1.length=3:=rfl;rw[<-ak,AR];omega
 rw[ak]at h4;have a0:=AB ak;clear ak;go_loopw [23] (λiv wr=>∃(k:Nat) (Ak:Option Addr) (ck:Nat),iv = io k/\k<=l.length/\ga (∀j,j<k->CP (ls.getD j default)=true/\(ls.getD j default).name∉(ls.take j).map En.name)/\WB wr (B+1) B Ak ck (p0++Cj (ls.take k))/\Met wr mb ((ls.take k).map En.name)/\Below B w wr) (λiv _=>l.length-(intOf iv).toNat);case atStart=>exact⟨0,A3,c3,rfl,AU _,AB (λj hj=>gd),by simpa [Cj]using h4,by simpa using aK,aL⟩
 case round=>
  clear h4 aK aL;obtain⟨k,Ak,ck,rfl,hk,T,hW,hM,I⟩:=hrel;by_cases aC:k<l.length
  .obtain⟨gb,off,hA,bj,Z⟩:=(hr.below I).row.elA aC;have aD:=(hr.below I).ins (l.getD k default) (B9 aC);have ab:=aN k;obtain⟨x,hx⟩:=ia (l.getD k default);obtain⟨f0,f1,f2,f3,f4,f5⟩:=Z x hx;rw[hx]at aD ab;have aO:Cj (ls.take (k+1))=Cj (ls.take k)++E3 x.p:=by rw[<-ab];exact FD gd
   have aP:(ls.take (k+1)).map En.name=(ls.take k).map En.name++[x.p.name]:=by
    rw[Cn,Cv,<-ab];have:ls[k]? = some (ls.getD k default):=by rw[BW,BF gd];rfl
    rw[this];rfl
   have aE:=AB ab;have a1:=AB aO;have a2:=AB aP;have a3:x.p.stats.length<=x.p.stats.length:=AD _;have ad:B<=wr.heap.size:=hW.le;obtain⟨y,aa⟩:=gZ wr (eNV x.p x.A x.c) 97;have aQ:=hW.keep aa;have aR:=hM.keep aa;have ae:=AS ad aa.size;have au:=I.trans (aa.mono ad);have af:=aD.below (aa.mono ad);have aS:wr.heap.size≠mb:=by have:=hM.lt;omega
   have bk:wr.heap.size≠B+1:=by have:=hW.z;omega
   obtain⟨u0,u1,u2,u3,u4,u5⟩:=y.c6;have HA:=AB hA;clear Z hx ab aO aP aD hW hM I a3;rw[hA];clear hA;(go_upto_region 9 with fail);generalize wr.alloc _=wA at *;generalize wr.heap.size=yb at *;clear f0 f1 f2 f3 f4 f5;(go_wp2_with fail);refine(Ux wA x.p x.A x.c (af.more (ae))).mono ?_;rintro e w5 ⟨rfl,hb5⟩;have am:=aQ.keep hb5;have ao:=aR.keep hb5;have y5:=y.keep hb5 y.z;have G:=AM au (ae) hb5;have av:=af.below (hb5.mono (ae));obtain⟨u0,u1,u2,u3,u4,u5⟩:=y5.c6;clear aQ aR y au af hb5 aa;cases ag:CP x.p with
   | false=>
     have O:=JW (met:=[]) (l:=ls) (k:=k) gd (.inl (by rw[aE.o];exact ag));have ah:=AB O;clear ag O;(go_wp2_with fail);go_ret2;rw[HB.o]at G;have h9:=IS (l:=ls) gd ah.o;exact⟨G,.inr ⟨by rw[h9];decide,by rw[h9];rfl⟩⟩
   | true=>
     have a9:=Hq (Gj ag).1;have aT:=AB ag;have V:=ao.look x.p.name gn;clear ag;cases hh:Ca ((ls.take k).map En.name) x.p.name with
     | true=>
       rw[hh]at V;have O:=JW (met:=[]) (l:=ls) (k:=k) gd (.inr (by rw[aE.o,CN];exact Ho.1 hh));have ah:=AB O;clear hh O;(go_wp2_with fail);go_ret2;rw[HB.o]at G;have h9:=IS (l:=ls) gd ah.o;exact⟨G,.inr ⟨by rw[h9];decide,by rw[h9];rfl⟩⟩
     | false=>
       rw[hh]at V;have HH:=AB hh;clear hh;obtain⟨w6,aU,aV,ai⟩:=ao.put x.p.name gn (by rw[Ae,BN];unfold maxLen;omega);obtain⟨bl,bm,aW⟩:=ao.isMap;have y6:=y5.map ai aS;have aF:=am.map aW ai;have aw:=G.trans (LJ (B:=B) ai gd am.le);have ax:=av.below (LJ (B:=B) ai gd am.le);(go_upto_region 12 with fail);obtain⟨u0,u1,u2,u3,u4,u5⟩:=y6.c6;clear aU V aW ai ao y5 y6 am G av;have a4:(p0++Cj (ls.take k)).length<=300000:=by
        have h1:(Cj (ls.take k)).length<=(ls.take k).length * 1550:=EP λz hz=>by
         obtain⟨j,hj,rfl⟩:=List.getElem_of_mem hz;rw[BN]at hj;have:=T.o j gd;rw[List.getElem_take,<-DV _ _ gd];exact LE this.1
        have h2:(ls.take k).length * 1550<=64 * 1550:=Cc _ (by rw[BN];omega);rw[AR];omega
       (go_wp2_with fail);refine(Ur w6 (B+1) B Ak ck _ aF gd x.p aT.o x.A x.c ax a4).mono ?_;rintro e w7 ⟨rfl,⟨A7,c7,h7⟩,hz⟩;have aX:=aV.wz hz gd;have a5:=aw.trans (hz.below gd (AD _) aF.le);rw[Az,<-a1.o]at h7;rw[<-a2.o]at aX;clear aF hz aV aw ax u0 u1 u2 u3 u4 u5;(go_wp2_with fail);go_roundw;case rel=>
        refine⟨k+1,A7,c7,by go_num,aC,AB λj hj=>?_,h7,aX,a5⟩;rcases Nat.lt_or_ge j k with aY|aY
        .exact T.o j aY
        obtain rfl:j=k:=gd;rw[aE.o];exact⟨aT.o,λq=>by rw[Ho.2 q]at HH;cases HH.o⟩
       case measure=>simp[intOf];omega
  have aZ:k=ls.length:=gd;have ay:ga (DW [] ls=true):=AB (Ok λj hj=>by rw[CN];exact T.o j gd);have HW:ga (WB wr (B+1) B Ak ck (wrE ls)):=AB (by
   rw[aZ,E8,<-a0.o,<-aM]at hW;exact hW)
  have c0:=HW.o.c0;have a6:=Ay HW.o.own;have bn:=Ol (JX ay.o) gd;clear hW hM aZ;go_wp2_with fail
  rw[HB.o]at I;refine(Kx wr _ _ Ak _ a6 (HT.o.below I aG) gd).mono ?_;rintro e w9 ⟨v9,rfl,hown9,hb9⟩;go_wp2_with fail
  go_ret2;exact⟨AM I I.size hb9,.inl ⟨Oy gd ay.o,v9,rfl,B4 hown9 I.size⟩⟩
theorem Oz (w A c l)(hr:EnR w w.heap.size A c l)(ht:Dx w):Calls prog 44 #[.slice A l.length c] w (Jc w (l.map El.p)):=V0 w A c l _ rfl hr ht
theorem Fc (w b P A c l bad)(h:dS w b P A c l bad)(most:Nat)(hm:most<=4294967295):
 Calls prog 186 #[iq b 0,il most] w (V4 w b P (dT most l bad)):=by
 go_enter func186,ntmps186;go_wp2_with fail
 refine(LC w b P A c l bad h).mono ?_;rintro e w1 ⟨rfl,⟨A1,c1,h1⟩,ho⟩;have HS:ga (dT most l bad=if most<(Ai l bad).1 then (0,(Ai l bad).2.1,true) else Ai l bad):=AB rfl;obtain⟨n,l1,b1,hn⟩:∃n l1 b1,Ai l bad=(n,l1,b1):=⟨_,_,_,rfl⟩;rw[hn]at h1 HS ⊢;dsimp only at h1 HS ⊢;have:=h1.c1;have:=h1.f1;clear hn;by_cases G:most<n
 .have HR:=AB (HS.o.trans (AJ G));have I:=gG most n;have O:decide (most<n)=true:=AF G;go_wp2_with fail
  go_ret;exact⟨by rw[HR.o];rfl,⟨A1,c1,by rw[HR.o];exact h1.set1 true⟩,ho.set 1 _⟩
 have HR:=AB (HS.o.trans (AE G));have I:=gH most n;have O:decide (most<n)=false:=AG G;have:wrap64 (n:Int)=(n:Int):=F7 _ ⟨gd,gd⟩;go_wp2_with fail
 go_ret;exact⟨by rw[HR.o];rfl,⟨A1,c1,by rw[HR.o];exact h1⟩,ho⟩
theorem P9 (w b P A c l bad)(h:dS w b P A c l bad)(k):
 Calls prog 246 #[iq b 0,ip k.toNat] w (P8 w b P (DN k l bad)):=by
 have HC:ga (DN k l bad=if k.toNat=1 then (if (Var.get l).2.2≠0\/bad=true then (ceZ,l,true) else (⟨1,Int64.ofInt (Dz (Var.get l).1),ByteArray.empty⟩,l.drop (Var.get l).2.1,false))
  else if k.toNat=2 then (⟨k,Int64.ofNat (dT 1 l bad).1,ByteArray.empty⟩,(dT 1 l bad).2)
  else (⟨k,0,(C7 l bad).1⟩,(C7 l bad).2)):=AB rfl
 obtain⟨R,hR⟩:=ia (DN k l bad);rw[hR]at HC ⊢;clear hR;obtain⟨kn,aa⟩:∃kn:Nat,k.toNat=kn:=⟨_,rfl⟩;rw[aa]at HC ⊢;have HK:=AB aa;clear aa;have g0:=LM h #[ip 0,io 0,.string ⟨#[]⟩] 199;have gA:=g0.new #[ip kn,io 0,.string ⟨#[]⟩] 199;go_enter func246,ntmps246;go_upto_region 2 with fail
 generalize (w.alloc _).alloc _=wA at *;have ai:(w.alloc (.cells #[ip 0,io 0,.string ⟨#[]⟩] 199)).heap.size=w.heap.size+1:=gj;rw[ai]at gA;obtain⟨B0,ab⟩:∃B,B=w.heap.size:=⟨_,rfl⟩;obtain⟨bs,I⟩:∃B,B=w.heap.size+1:=⟨_,rfl⟩;rw[<-I,<-ab]at gA;rw[<-I,<-ab];have n3:=gA.nb3;have n4:=gA.nb4;have n1:=gA.nb1;have n2:=gA.nb2;have n5:=gA.nb5;clear g0 ai ab I h;by_cases k1:kn=1
 .subst k1;have T:=AB (HC.o.trans (AJ rfl));have aj:k=1:=UInt8.toNat_inj.1 (by rw[HK.o];rfl);have ax:=AB aj;have r0:=gA.g0.rd.c0;have r1:=gA.g0.rd.c1;have q0:=gA.g0.rd.f0;have q1:=gA.g0.rd.f1;have au:=gA.g0.rd.rd.rd;clear HC aj;go_wp2_with fail
  refine(Um wA wA.heap.size _ c A l au).mono ?_;rintro e w1 ⟨rfl,rfl⟩;have ad:LB l = .tuple #[io (Dz (Var.get l).1),io ((Var.get l).2.1:Int),io ((Var.get l).2.2:Int)]:=rfl;rw[ad];by_cases hg:(Var.get l).2.2=0/\bad=false
  .obtain⟨hg,rfl⟩:=hg;have HR:=AB (T.o.trans (AE (by rw[hg];simp)));have hk:(Var.get l).2.1<=l.length:=(Var.get_ok (l:=l) (n:=(Var.get l).1) (k:=(Var.get l).2.1) (by rw[<-hg])).2.1;obtain⟨A2,l2,ak,s1,s2,am⟩:=gA.g0.rd.rd.lo hk;rw[<-ak]at HR;obtain⟨N,hN⟩:∃N:Int64,N.toInt=Dz (Var.get l).1:=⟨Int64.ofInt (Dz (Var.get l).1),by
    have:=V5 (Var.get_lt l);rw[Int64.toInt_ofInt_of_le (by have:=this.1;simpa using this) (by have:=this.2;simpa using this)]⟩
   have O:ga (R=(⟨1,N,ByteArray.empty⟩,l2,false)):=AB (by rw[HR.o,<-hN,Int64.ofInt_toInt]);rw[hg,<-hN];generalize (Var.get l).2.1=g2 at *;have HG:=AB gA;have ao:=AB am;have x1:=gA.bx.cell 1 _ rfl;have ae:=gA.bx.free 1 gj;clear hg hN ak hk ad am gA HR T;(go_upto_region 9 with fail);go_region
   have G:=(HG.o.putcut 1 (io N.toInt) rfl ao.o).drew;generalize ((wA.setCell _ _).setCell _ _).drew=wB at *;obtain⟨x0,x1,x2⟩:=G.bx.c3;obtain⟨z0,z1,z2⟩:=G.g0.rb.c3;obtain⟨af,ag,ah⟩:=G.g0.rb.f3;have av:=AB G;clear r0 r1 q0 q1 ae G HG ao s1 s2;(go_wp2_with fail);(try simp only[Exit.inBlock,Exit.then]);have G3:=((av.o.res 0 (ip ((1:Nat):Int)) rfl).res 1 (io N.toInt) rfl).res 2 (.string ⟨#[]⟩) rfl;refine AW (IV (b:=B0) rfl _ _ rfl G3.g0.rb) rfl ?_;exact IW (k:=1) (n:=N) (s:=ByteArray.empty) G3.g0 O.o
  have HR:=AB (T.o.trans (AJ (by
   apply Decidable.byContradiction;intro q;apply hg;refine⟨Decidable.byContradiction λr=>q (.inl r),?_⟩;cases bad with
   | false=>rfl
   | true=>exact absurd (.inr rfl) q)))
  obtain⟨z0,z1,z2⟩:=gA.g0.rb.c3;obtain⟨af,ag,ah⟩:=gA.g0.rb.f3;have HG:=AB gA;obtain⟨g3,ap⟩:∃g,g=(Var.get l).2.2:=⟨_,rfl⟩;rw[<-ap]at hg ⊢;generalize (Var.get l).2.1=g2 at *;generalize Dz (Var.get l).1=g1 at *;clear ap ad gA T;have G3:=(((HG.o.why true).res 0 (ip 0) rfl).res 1 (io 0) rfl).res 2 (.string ⟨#[]⟩) rfl;have V:=AB G3;clear G3;by_cases aq:g3=0
  .subst aq;obtain rfl:bad=true:=by cases bad<;>simp_all
   clear hg;(go_wp2_with fail);(try simp only[Exit.inBlock,Exit.then]);refine AW (IV (b:=B0) rfl _ _ rfl V.o.g0.rb) rfl ?_;exact IW (k:=0) (n:=0) (s:=ByteArray.empty) V.o.g0 HR.o
  have t2:=gM g3 0;clear hg aq;go_wp2_with fail
  (try simp only[Exit.inBlock,Exit.then]);refine AW (IV (b:=B0) rfl _ _ rfl V.o.g0.rb) rfl ?_;exact IW (k:=0) (n:=0) (s:=ByteArray.empty) V.o.g0 HR.o
 have Z:=AB (HC.o.trans (AE k1));have ay:=gL kn 1;clear HC;have az:(kn==1)=false:=by rw[AQ];exact k1
 by_cases k2:kn=2
 .have HR:=AB (Z.o.trans (AJ k2));subst k2;clear k1 Z;go_wp2_with fail
  refine(Fc wA b _ A c l bad gA.g0.rd 1 gm).mono ?_;rintro e w1 ⟨rfl,⟨A1,c1,h1⟩,ho1⟩;have ar:=GF 1 l bad;obtain⟨n,l1,b1,hn⟩:∃n l1 b1,dT 1 l bad=(n,l1,b1):=⟨_,_,_,rfl⟩;rw[hn]at h1 ar ⊢;dsimp only at h1 ar ⊢;have G:=gA.go h1 ho1;have O:ga (R=(⟨k,Int64.ofNat n,ByteArray.empty⟩,l1,b1)):=AB (by rw[HR.o,hn]);have en:(Int64.ofNat n).toInt=(n:Int):=Je gd;clear hn h1 HR;obtain⟨x0,x1,x2⟩:=G.bx.c3;obtain⟨z0,z1,z2⟩:=G.g0.rb.c3;obtain⟨af,ag,ah⟩:=G.g0.rb.f3;obtain⟨-,ae,aw⟩:=G.bx.f3;have HG:=AB G;clear G gA ho1;go_wp2_with fail
  (try simp only[Exit.inBlock,Exit.then]);have G3:=(((HG.o.put 1 (io n) rfl).res 0 (ip ((2:Nat):Int)) rfl).res 1 (io n) rfl).res 2 (.string ⟨#[]⟩) rfl;refine AW (IV (b:=B0) rfl _ _ rfl G3.g0.rb) rfl ?_;have:=IW (k:=k) (n:=Int64.ofNat n) (s:=ByteArray.empty) G3.g0 O.o;rw[HK.o,en]at this;exact this
 have HR:=AB (Z.o.trans (AE k2));have aB:=gL kn 2;clear k1 Z;go_wp2_with fail
 refine(Oi wA b _ A c l bad gA.g0.rd).mono ?_;rintro e w1 ⟨rfl,⟨A1,c1,h1⟩,ho1⟩;obtain⟨s,l1,b1,hn⟩:∃s l1 b1,C7 l bad=(s,l1,b1):=⟨_,_,_,rfl⟩;rw[hn]at h1 ⊢;dsimp only at h1 ⊢;have G:=gA.go h1 ho1;have O:ga (R=(⟨k,0,s⟩,l1,b1)):=AB (by rw[HR.o,hn]);clear hn h1 HR;obtain⟨x0,x1,x2⟩:=G.bx.c3;obtain⟨z0,z1,z2⟩:=G.g0.rb.c3;obtain⟨af,ag,ah⟩:=G.g0.rb.f3;obtain⟨-,ae,aw⟩:=G.bx.f3;have HG:=AB G;clear G gA ho1;go_wp2_with fail
 (try simp only[Exit.inBlock,Exit.then]);have G3:=(((HG.o.put 2 (.string s) rfl).res 0 (ip kn) rfl).res 1 (io 0) rfl).res 2 (.string s) rfl;refine AW (IV (b:=B0) rfl _ _ rfl G3.g0.rb) rfl ?_;have:=IW (k:=k) (n:=0) (s:=s) G3.g0 O.o;rw[HK.o]at this;exact this
theorem V8 (w b P A c l bad)(h:dS w b P A c l bad)(rows):
 Calls prog 221 #[iq b 0,io rows.toInt] w (LO w b P (EG rows l bad)):=by
 have HC:ga (EG rows l bad=IU rows (dT 256 l bad).1 (dT 3 (dT 256 l bad).2.1 (dT 256 l bad).2.2).1 (dT 3 (dT 256 l bad).2.1 (dT 256 l bad).2.2).2.1 (dT 3 (dT 256 l bad).2.1 (dT 256 l bad).2.2).2.2):=AB rfl;obtain⟨R,hR⟩:=ia (EG rows l bad);rw[hR]at HC ⊢;clear hR;have g0:=LM h #[io 0,io 0,.bool false,.bool false,ip 0,io 0,.string ⟨#[]⟩,ip 0,io 0,.string ⟨#[]⟩] 201;go_enter func221,ntmps221;go_wp2_with fail
 generalize w.alloc _=w1 at *;obtain⟨B0,ab⟩:∃B,B=w.heap.size:=⟨_,rfl⟩;rw[<-ab]at g0 ⊢;clear h ab;refine(Fc w1 b _ A c l bad g0.rd 256 gm).mono ?_;rintro e w2 ⟨rfl,⟨A1,c1,h1⟩,ho1⟩;have I:=GF 256 l bad;obtain⟨a,l1,b1,hn⟩:∃n l1 b1,dT 256 l bad=(n,l1,b1):=⟨_,_,_,rfl⟩;rw[hn]at h1 I HC ⊢;dsimp only at h1 I HC ⊢;have G0:=g0.go h1 ho1;have gA:=G0.new #[io rows.toInt,io a,.bool false,.bool false,ip 0,io 0,.string ⟨#[]⟩,ip 0,io 0,.string ⟨#[]⟩] 201;have ad:(Int64.ofNat a).toInt=(a:Int):=Je gd;have T:=AB ad;clear hn h1 ho1 g0 G0 ad I;go_wp2_with fail
 generalize w2.alloc _=wA at *;generalize w2.heap.size=bs at *;refine(Fc wA b _ A1 c1 l1 b1 gA.g0.rd 3 gm).mono ?_;rintro e w3 ⟨rfl,⟨A2,c2,h1⟩,ho1⟩;have I:=GF 3 l1 b1;obtain⟨f,l2,b2,hn⟩:∃x y z,dT 3 l1 b1=(x,y,z):=⟨_,_,_,rfl⟩;rw[hn]at h1 I HC ⊢;dsimp only at h1 I HC ⊢;have G:=gA.go h1 ho1;have:=G.nb3;have:=G.nb4;have:=G.nb1;have:=G.nb2;have:=G.nb5;clear hn h1 ho1 gA;by_cases hf:f=0
 .subst hf;have HR:ga (R=(⟨rows,Int64.ofNat a,false,false,ceZ,ceZ⟩,l2,b2)):=AB (HC.o.trans (AJ rfl));clear HC I;have x0:=G.bx.cell 0 _ rfl;have x1:=G.bx.cell 1 _ rfl;have x2:=G.bx.cell 2 _ rfl;have x3:=G.bx.cell 3 _ rfl;have x4:=G.bx.cell 4 _ rfl;have x5:=G.bx.cell 5 _ rfl;have x6:=G.bx.cell 6 _ rfl;have x7:=G.bx.cell 7 _ rfl;have x8:=G.bx.cell 8 _ rfl;have x9:=G.bx.cell 9 _ rfl;have z0:=G.g0.rb.cell 0 _ rfl;have z1:=G.g0.rb.cell 1 _ rfl;have z2:=G.g0.rb.cell 2 _ rfl;have z3:=G.g0.rb.cell 3 _ rfl;have z4:=G.g0.rb.cell 4 _ rfl;have z5:=G.g0.rb.cell 5 _ rfl;have z6:=G.g0.rb.cell 6 _ rfl;have z7:=G.g0.rb.cell 7 _ rfl;have z8:=G.g0.rb.cell 8 _ rfl;have z9:=G.g0.rb.cell 9 _ rfl;have ae:=G.g0.rb.free 0 gj;have af:=G.g0.rb.free 1 gj;have ag:=G.g0.rb.free 2 gj;have ah:=G.g0.rb.free 3 gj;have ai:=G.g0.rb.free 4 gj;have aj:=G.g0.rb.free 5 gj;have ak:=G.g0.rb.free 6 gj;have am:=G.g0.rb.free 7 gj;have ao:=G.g0.rb.free 8 gj;have ap:=G.g0.rb.free 9 gj;have HG:=AB G;clear G;go_wp2_with fail
  (try simp only[Exit.inBlock,Exit.then]);have G9:=((((((((((HG.o.res 0 (io rows.toInt) rfl).res 1 (io a) rfl).res 2 (.bool false) rfl).res 3 (.bool false) rfl).res 4 (ip 0) rfl).res 5 (io 0) rfl).res 6 (.string ⟨#[]⟩) rfl).res 7 (ip 0) rfl).res 8 (io 0) rfl).res 9 (.string ⟨#[]⟩) rfl);refine AW (LN (b:=B0) rfl _ _ rfl G9.g0.rb) rfl ?_;exact LP ⟨rows,Int64.ofNat a,false,false,ceZ,ceZ⟩ G9.g0 HR.o (by simp only[stA,T.o]<;>rfl)
 have O:ga (R=IT rows a (decide (f=3)) (UInt8.ofNat (dT 3 l2 b2).1) (dT 3 l2 b2).2.1 (dT 3 l2 b2).2.2):=AB (HC.o.trans (AE hf));obtain⟨hi,Z⟩:=ib (decide (f=3));rw[<-Z]at O;have au:=gL f 0;have av:((f:Int)==3)=hi:=by rw[Z,Cx];simp only[Ap,BI];omega
 obtain⟨-,-,x2,x3⟩:=G.bx.c4;obtain⟨-,-,aw,ax⟩:=G.bx.f4;have HG:=AB G;clear HC Z G I;go_upto_region 6 with fail
 have G:=(HG.o.put 2 (.bool true) rfl).put 3 (.bool hi) rfl;generalize (w3.setCell _ _).setCell _ _=w4 at *;clear x2 x3 aw ax HG hf au av;go_wp2_with fail
 refine(Fc w4 b _ A2 c2 l2 b2 G.g0.rd 3 gm).mono ?_;rintro e w5 ⟨rfl,⟨A3,c3,h1⟩,ho1⟩;have I:=GF 3 l2 b2;obtain⟨kk,l3,b3,hn⟩:∃n l1 b1,dT 3 l2 b2=(n,l1,b1):=⟨_,_,_,rfl⟩;rw[hn]at h1 I O ⊢;dsimp only at h1 I O ⊢;have G5:=G.go h1 ho1;obtain⟨k,hk⟩:∃k:UInt8,k=UInt8.ofNat kk:=⟨_,rfl⟩;rw[<-hk]at O;have aa:k.toNat=kk:=by rw[hk,UInt8.toNat_ofNat'];omega
 have ay:IntKind.u8.wrap (kk:Int)=(k.toNat:Int):=by rw[IntKind.wrap_u8,aa];omega
 have az:(kk:Int) % 256=(k.toNat:Int):=by rw[aa];omega
 clear hn h1 ho1 G I hk aa;go_wp2_with fail
 refine(P9 w5 b _ A3 c3 l3 b3 G5.g0.rd k).mono ?_;rintro e w6 ⟨rfl,⟨A4,c4,h1⟩,ho1⟩;have G6:=G5.go h1 ho1;obtain⟨mn,l4,b4,hn⟩:∃n l1 b1,DN k l3 b3=(n,l1,b1):=⟨_,_,_,rfl⟩;rw[hn]at G6 ⊢;dsimp only[ceV]at G6 ⊢;have V:ga (R=IT rows a hi k l3 b3):=AB O.o;have aq:=AB hn;clear O hn h1 ho1 G5 ay az;obtain⟨-,-,-,-,aB,aC,aD⟩:=G6.bx.f7;obtain⟨-,-,-,-,x4,x5,x6⟩:=G6.bx.c7;have HG:=AB G6;clear G6;go_upto_region 8 with fail
 have G:=((HG.o.put 4 (ip mn.kind.toNat) rfl).put 5 (io mn.n.toInt) rfl).put 6 (.string mn.s) rfl;generalize ((w6.setCell _ _).setCell _ _).setCell _ _=w7 at *;clear aB aC aD x4 x5 x6 HG;cases hi with
 | false=>
   have HR:ga (R=(⟨rows,Int64.ofNat a,true,false,mn,ceZ⟩,l4,b4)):=AB (V.o.trans ((AE gj).trans (by rw[aq.o])));clear V;have x0:=G.bx.cell 0 _ rfl;have x1:=G.bx.cell 1 _ rfl;have x2:=G.bx.cell 2 _ rfl;have x3:=G.bx.cell 3 _ rfl;have x4:=G.bx.cell 4 _ rfl;have x5:=G.bx.cell 5 _ rfl;have x6:=G.bx.cell 6 _ rfl;have x7:=G.bx.cell 7 _ rfl;have x8:=G.bx.cell 8 _ rfl;have x9:=G.bx.cell 9 _ rfl;have z0:=G.g0.rb.cell 0 _ rfl;have z1:=G.g0.rb.cell 1 _ rfl;have z2:=G.g0.rb.cell 2 _ rfl;have z3:=G.g0.rb.cell 3 _ rfl;have z4:=G.g0.rb.cell 4 _ rfl;have z5:=G.g0.rb.cell 5 _ rfl;have z6:=G.g0.rb.cell 6 _ rfl;have z7:=G.g0.rb.cell 7 _ rfl;have z8:=G.g0.rb.cell 8 _ rfl;have z9:=G.g0.rb.cell 9 _ rfl;have ae:=G.g0.rb.free 0 gj;have af:=G.g0.rb.free 1 gj;have ag:=G.g0.rb.free 2 gj;have ah:=G.g0.rb.free 3 gj;have ai:=G.g0.rb.free 4 gj;have aj:=G.g0.rb.free 5 gj;have ak:=G.g0.rb.free 6 gj;have am:=G.g0.rb.free 7 gj;have ao:=G.g0.rb.free 8 gj;have ap:=G.g0.rb.free 9 gj;have HG:=AB G;clear G;(go_wp2_with fail);(try simp only[Exit.inBlock,Exit.then]);have G9:=((((((((((HG.o.res 0 (io rows.toInt) rfl).res 1 (io a) rfl).res 2 (.bool true) rfl).res 3 (.bool false) rfl).res 4 (ip mn.kind.toNat) rfl).res 5 (io mn.n.toInt) rfl).res 6 (.string mn.s) rfl).res 7 (ip 0) rfl).res 8 (io 0) rfl).res 9 (.string ⟨#[]⟩) rfl);refine AW (LN (b:=B0) rfl _ _ rfl G9.g0.rb) rfl ?_;exact LP ⟨rows,Int64.ofNat a,true,false,mn,ceZ⟩ G9.g0 HR.o (by simp only[stA,T.o]<;>rfl)
 | true=>
   have ar:ga (R=(⟨rows,Int64.ofNat a,true,true,mn,(DN k l4 b4).1⟩,(DN k l4 b4).2)):=AB (V.o.trans ((AJ rfl).trans (by rw[aq.o])));have x3:=G.bx.cell 3 _ rfl;clear V;(go_wp2_with fail);refine(P9 w7 b _ A4 c4 l4 b4 G.g0.rd k).mono ?_;rintro e w8 ⟨rfl,⟨A5,c5,h1⟩,ho1⟩;have G8:=G.go h1 ho1;obtain⟨mx,l5,b5,hn⟩:∃n l1 b1,DN k l4 b4=(n,l1,b1):=⟨_,_,_,rfl⟩;rw[hn]at G8 ⊢;dsimp only[ceV]at G8 ⊢;have HR:ga (R=(⟨rows,Int64.ofNat a,true,true,mn,mx⟩,l5,b5)):=AB (ar.o.trans (by rw[hn]));clear ar hn h1 ho1 G x3;have aE:=G8.bx.free 7 gj;have aF:=G8.bx.free 8 gj;have aG:=G8.bx.free 9 gj;have x7:=G8.bx.cell 7 _ rfl;have x8:=G8.bx.cell 8 _ rfl;have x9:=G8.bx.cell 9 _ rfl;have HG:=AB G8;clear G8;(go_upto_region 10 with fail);have G:=((HG.o.put 7 (ip mx.kind.toNat) rfl).put 8 (io mx.n.toInt) rfl).put 9 (.string mx.s) rfl;generalize ((w8.setCell _ _).setCell _ _).setCell _ _=w9 at *;clear aE aF aG x7 x8 x9 HG;have x0:=G.bx.cell 0 _ rfl;have x1:=G.bx.cell 1 _ rfl;have x2:=G.bx.cell 2 _ rfl;have x3:=G.bx.cell 3 _ rfl;have x4:=G.bx.cell 4 _ rfl;have x5:=G.bx.cell 5 _ rfl;have x6:=G.bx.cell 6 _ rfl;have x7:=G.bx.cell 7 _ rfl;have x8:=G.bx.cell 8 _ rfl;have x9:=G.bx.cell 9 _ rfl;have z0:=G.g0.rb.cell 0 _ rfl;have z1:=G.g0.rb.cell 1 _ rfl;have z2:=G.g0.rb.cell 2 _ rfl;have z3:=G.g0.rb.cell 3 _ rfl;have z4:=G.g0.rb.cell 4 _ rfl;have z5:=G.g0.rb.cell 5 _ rfl;have z6:=G.g0.rb.cell 6 _ rfl;have z7:=G.g0.rb.cell 7 _ rfl;have z8:=G.g0.rb.cell 8 _ rfl;have z9:=G.g0.rb.cell 9 _ rfl;have ae:=G.g0.rb.free 0 gj;have af:=G.g0.rb.free 1 gj;have ag:=G.g0.rb.free 2 gj;have ah:=G.g0.rb.free 3 gj;have ai:=G.g0.rb.free 4 gj;have aj:=G.g0.rb.free 5 gj;have ak:=G.g0.rb.free 6 gj;have am:=G.g0.rb.free 7 gj;have ao:=G.g0.rb.free 8 gj;have ap:=G.g0.rb.free 9 gj;have HG:=AB G;clear G;(go_wp2_with fail);(try simp only[Exit.inBlock,Exit.then]);have G9:=((((((((((HG.o.res 0 (io rows.toInt) rfl).res 1 (io a) rfl).res 2 (.bool true) rfl).res 3 (.bool true) rfl).res 4 (ip mn.kind.toNat) rfl).res 5 (io mn.n.toInt) rfl).res 6 (.string mn.s) rfl).res 7 (ip mx.kind.toNat) rfl).res 8 (io mx.n.toInt) rfl).res 9 (.string mx.s) rfl);refine AW (LN (b:=B0) rfl _ _ rfl G9.g0.rb) rfl ?_;exact LP ⟨rows,Int64.ofNat a,true,true,mn,mx⟩ G9.g0 HR.o (by simp only[stA,T.o]<;>rfl)
theorem PA (w b P A c l bad)(h:dS w b P A c l bad)(rn:Nat)(hn:rn<=256):
 Calls prog 221 #[iq b 0,io rn] w (LO w b P (EG (Int64.ofNat rn) l bad)):=by
 have:=V8 w b P A c l bad h (Int64.ofNat rn);rw[Je gd]at this;exact this
theorem VB (w br P A c l bad)(h:dS w br P A c l bad):
 Calls prog 187 #[iq br 0] w (PB w br P (EH l bad)):=by
 have g0:=LM h #[.string ⟨#[]⟩,.bool false,il 0,io 0,im 0,ir] 97;go_enter func187,ntmps187;go_wp2_with fail
 generalize w.alloc _=w0 at *;obtain⟨B0,ap⟩:∃B,B=w.heap.size:=⟨_,rfl⟩;rw[<-ap]at g0 ⊢;clear h ap;refine(Oi w0 br _ A c l bad g0.rd).mono ?_;rintro e w1 ⟨rfl,⟨A1,c1,h1⟩,ho⟩;obtain⟨nm,l1,b1,hn⟩:∃x y z,C7 l bad=(x,y,z):=⟨_,_,_,rfl⟩;rw[hn]at h1 ⊢;dsimp only at h1 ⊢;have HA:=AB hn;have g1:=g0.go h1 ho;clear hn h1 ho g0;go_wp2_with fail
 refine(Fc w1 br _ A1 c1 l1 b1 g1.rd 1 gm).mono ?_;rintro e w2 ⟨rfl,⟨A2,c2,h1⟩,ho⟩;obtain⟨ks,l2,b2,hn⟩:∃x y z,dT 1 l1 b1=(x,y,z):=⟨_,_,_,rfl⟩;rw[hn]at h1 ⊢;dsimp only at h1 ⊢;have aq:=AB hn;have g2:=g1.go h1 ho;obtain⟨kb,ak⟩:=ib (decide (ks=1));have t9:((ks:Int)==1)=kb:=by rw[ak,Cx];simp only[Ap,BI];omega
 have ar:=AB ak;clear hn h1 ho g1 ak;go_wp2_with fail
 refine(LC w2 br _ A2 c2 l2 b2 g2.rd).mono ?_;rintro e w3 ⟨rfl,⟨A3,c3,h1⟩,ho⟩;have O:=FG l2 b2;obtain⟨sq,l3,b3,hn⟩:∃x y z,Ai l2 b2=(x,y,z):=⟨_,_,_,rfl⟩;rw[hn]at h1 O ⊢;dsimp only at h1 O ⊢;have au:=AB O;have av:=AB hn;have g3:=g2.go h1 ho;clear hn h1 ho g2 O;go_wp2_with fail
 refine(Fc w3 br _ A3 c3 l3 b3 g3.rd 256 gm).mono ?_;rintro e w4 ⟨rfl,⟨A4,c4,h1⟩,ho⟩;have O:=GF 256 l3 b3;obtain⟨rn,l4,b4,hn⟩:∃x y z,dT 256 l3 b3=(x,y,z):=⟨_,_,_,rfl⟩;rw[hn]at h1 O ⊢;dsimp only at h1 O ⊢;have am:=AB O;have aw:=AB hn;have g4:=g3.go h1 ho;clear hn h1 ho g3 O;go_wp2_with fail
 refine(Fc w4 br _ A4 c4 l4 b4 g4.rd 4294967295 gm).mono ?_;rintro e w5 ⟨rfl,⟨A5,c5,h1⟩,ho⟩;have O:=GF 4294967295 l4 b4;obtain⟨sc,l5,b5,hn⟩:∃x y z,dT 4294967295 l4 b4=(x,y,z):=⟨_,_,_,rfl⟩;rw[hn]at h1 O ⊢;dsimp only at h1 O ⊢;have ax:=AB O;have ay:=AB hn;have g5:=g4.go h1 ho;have aB:IntKind.u32.wrap (sc:Int)=(sc:Int):=by rw[IntKind.wrap_u32];omega
 have aC:(sc:Int) % 4294967296=(sc:Int):=gd;have gA:=g5.new #[.string nm,.bool kb,il sq,io rn,im sc,ir] 97;clear hn h1 ho g4 O g5;go_wp2_with fail
 generalize w5.alloc _=wA at *;generalize w5.heap.size=bs at *;refine(Fc wA br _ A5 c5 l5 b5 gA.g0.rd 8 gm).mono ?_;rintro e w6 ⟨rfl,⟨A6,c6,h1⟩,ho⟩;have O:=GF 8 l5 b5;obtain⟨N,l6,b6,hn⟩:∃x y z,dT 8 l5 b5=(x,y,z):=⟨_,_,_,rfl⟩;rw[hn]at h1 O ⊢;dsimp only at h1 O ⊢;have gN:=gA.go h1 ho;obtain⟨Q,hQ⟩:=ia (E5 (Int64.ofNat rn) N l6 b6 []);have HQ:=AB hQ;have HR:ga (EH l bad=(⟨nm,kb,UInt64.ofNat sq,Int64.ofNat rn,UInt32.ofNat sc,Q.1⟩,Q.2.1,Q.2.2)):=AB (by
  rw[V9 HA.o aq.o av.o aw.o ay.o hn (hQ.trans (show Q=(Q.1,Q.2.1,Q.2.2) from rfl)),ar.o])
 have G7:GE w B0 br bs P nm kb sq rn sc [.string ⟨#[]⟩,.bool false,il 0,io 0,im 0,ir] A6 c6 l6 b6 none 0 [] w6:=⟨gN,Av _ _ _ _⟩;clear hn h1 ho gA gN HA aq av aw ay ar aB aC t9 hQ;obtain⟨ti,ao,ae,af,ag⟩:=DZ IR.inf;go_wp2_with fail
 go_loopw [4] (GER w B0 br bs P nm kb sq rn sc [.string ⟨#[]⟩,.bool false,il 0,io 0,im 0,ir] Q) (λiv _=>(intOf iv).toNat);case atStart=>exact⟨N,A6,c6,l6,b6,none,0,[],rfl,by simpa using O,HQ,G7⟩
 case round=>
  clear G7 O;obtain⟨m,A',c',l',e',fA,fc,ms,rfl,aE,ai,G⟩:=hrel;have k1:=G.gk.g0.rd.c1;have s5:=G.gk.bx.cell 5 _ rfl;have HG:=AB G;by_cases hx:m=0\/e'=true
  ·
   have hq:=V1 (rows:=Int64.ofNat rn) (l:=l') (acc:=ms) hx;rw[ai.o]at hq;obtain⟨d0,d1,d2,d3,d4⟩:=G.gk.bx.c5;have:=G.gk.g0.rb.cell 0 _ rfl;have:=G.gk.g0.rb.free 0 gj;have:=G.gk.g0.rb.cell 1 _ rfl;have:=G.gk.g0.rb.free 1 gj;have:=G.gk.g0.rb.cell 2 _ rfl;have:=G.gk.g0.rb.free 2 gj;have:=G.gk.g0.rb.cell 3 _ rfl;have:=G.gk.g0.rb.free 3 gj;have:=G.gk.g0.rb.cell 4 _ rfl;have:=G.gk.g0.rb.free 4 gj;have:=G.gk.g0.rb.cell 5 _ rfl;have:=G.gk.g0.rb.free 5 gj;have:=G.gk.nb1;have:=G.gk.nb2;have aj:ga (EH l bad=(⟨nm,kb,UInt64.ofNat sq,Int64.ofNat rn,UInt32.ofNat sc,ms⟩,l',e')):=AB (by rw[HR.o,hq]);have H8:ga (ms.length<=8):=AB gd;clear hq ai G;by_cases hm:m=0
   .have t1:¬ 0<m:=gd;have t2:=gH 0 m;clear hx;(go_wp2_with fail);(try simp only[Exit.inBlock,Exit.then]);have G9:=((((((HG.o.res 0 (.string nm) rfl).res 1 (.bool kb) rfl).res 2 (il sq) rfl).res 3 (io rn) rfl).res 4 (im sc) rfl).res 5 (.slice fA ms.length fc) rfl);refine AW (LQ (b:=B0) rfl _ _ rfl G9.gk.g0.rb) rfl ?_;exact PC G9 H8.o au.o am.o (by have:=ax.o;omega) aj.o
   obtain rfl:e'=true:=by simpa [hm]using hx
   have t2:=gG 0 m;clear hx;(go_wp2_with fail);(try simp only[Exit.inBlock,Exit.then]);have G9:=((((((HG.o.res 0 (.string nm) rfl).res 1 (.bool kb) rfl).res 2 (il sq) rfl).res 3 (io rn) rfl).res 4 (im sc) rfl).res 5 (.slice fA ms.length fc) rfl);refine AW (LQ (b:=B0) rfl _ _ rfl G9.gk.g0.rb) rfl ?_;exact PC G9 H8.o au.o am.o (by have:=ax.o;omega) aj.o
  
  have az:0<m:=gd;obtain rfl:e'=false:=by cases e'<;>simp_all
  have hq:=ai.o;rw[show m=(m-1)+1 by omega,P0]at hq;have ad:=AB hq;have t1:=gG 0 m;have HM:=AB az;have f5:=G.gk.bx.free 5 gj;have s0:=G.gk.bx.cell 3 _ rfl;have:=am.o;clear hq ai hx az G;go_upto_region 5 with fail
  refine wp_region_held_drew (S:=(λw'=>w'.cell? (gX bs 3)=some (io rn))) gh ?_ (λhHeld=>?_)
  .exact s0
  refine tK 0 ?_;refine tK 2 ?_;refine tK 3 ?_;refine ij 4 (v:=?_) ?_ ?_;rotate_left 1
  ·(intro w hSw;have:w.cell? (gX bs 3)=some (io rn):=hSw;go_simp;first|done|with_reducible rfl)
  refine ie ?_;refine wpAnyH_ready (rs:=[1,5]) gh gj ?_;refine AllReadyH.cons rfl (λK hK=>?_) (AllReadyH.cons rfl (λK hK=>?_) (AllReadyH.nil))
  .go_simp;refine hK.out _ _ s0 (λhHeld=>?_);clear hK K;refine ie ?_;refine rD 5 λK hK=>?_;go_simp;go_at_call 221;refine(PA wr.drew br _ A' c' l' false HG.o.drew.gk.g0.rd rn gd).mono ?_;rintro e w6 ⟨rfl,⟨A6,c6,rd6⟩,ho6⟩;obtain⟨s6,l6,e6,hT⟩:∃s l e,EG (Int64.ofNat rn) l' false=(s,l,e):=⟨_,_,_,rfl⟩;rw[hT]at rd6 ⊢;dsimp only[stA]at rd6 ⊢;have HT:=AB hT;have I:=AB (HG.o.drew.go rd6 ho6);have s1:=I.o.gk.bx.cell 5 _ rfl;have s3:=I.o.gk.bx.cell 3 _ rfl;have HL:=AB (I.o.lit s6);have aD:bs+1<=w6.heap.size:=I.o.gk.bx.z;have ab:=hI w6 (.cells (stA s6) 201);have s2:=(I.o.gk.bx.keep ab I.o.gk.bx.z).cell 5 _ rfl;have s4:=(I.o.gk.bx.keep ab I.o.gk.bx.z).cell 3 _ rfl;dsimp only[stA]at s2 s4 HL;clear hT ab rd6 ho6;(try dsimp only);refine hK.out _ _ s3 (λhHeld=>?_);clear hK K;refine ie ?_;refine rD 6 λK hK=>?_;go_simp;refine hK.out _ _ s4 (λhHeld=>?_);clear hK K;refine ie ?_;refine rD 7 λK hK=>?_;refine Cw _ rfl (.tmp 32) (.tmp 37) 95 rfl (bs+1) 201 ti _ 10 88 underlying95 ao ae af ag IR.zs gm _ ms.length (BH ms) (by simp[Act.eval,Act.put]) HL.o.1 _ 1 1 (stV s6) (by simp[Act.eval,Act.put]) rfl HL.o.2 (Ja s6) gd gq gd (by simp<;>omega) _ rfl ?_;intro g cap w8 T V _ _;obtain⟨d1,d2,d3,Z⟩:=I.o.grown (s:=s6) T V;have aa:=AB Z;clear T V Z;refine hK.out _ _ d3 (λhHeld=>?_);clear hK K;refine ie ?_;refine tK 8 ?_;refine rD 9 λK hK=>?_;go_simp;refine hK.out _ _ (aa.o.gk.bx.cell 3 _ rfl) (λhHeld=>?_);clear hK K;refine ie ?_;refine wpAnyH_done gh ?_ _;have ah:ga (E5 (Int64.ofNat rn) (m-1) l6 e6 (ms++[s6])=Q):=AB (by have q:=ad.o;rw[HT.o]at q;exact q);clear k1 s0 s5 f5 ad HT HG I HL;clear d1 d2 d3 s1 s2 s3 s4;(go_wp2_with fail);go_roundw;case rel=>exact⟨m-1,A6,c6,l6,e6,_,cap,ms++[s6],by have:=HM.o;congr 1;omega,by have:=HM.o;rw[AR,Ea];omega,ah,aa.o⟩
   case measure=>have:=HM.o;simp[intOf];omega
  go_simp;go_at_call 221;refine(PA wr.drew br _ A' c' l' false HG.o.drew.gk.g0.rd rn gd).mono ?_;rintro e w6 ⟨rfl,⟨A6,c6,rd6⟩,ho6⟩;obtain⟨s6,l6,e6,hT⟩:∃s l e,EG (Int64.ofNat rn) l' false=(s,l,e):=⟨_,_,_,rfl⟩;rw[hT]at rd6 ⊢;dsimp only[stA]at rd6 ⊢;have HT:=AB hT;have I:=AB (HG.o.drew.go rd6 ho6);have s1:=I.o.gk.bx.cell 5 _ rfl;have s3:=I.o.gk.bx.cell 3 _ rfl;have HL:=AB (I.o.lit s6);have aD:bs+1<=w6.heap.size:=I.o.gk.bx.z;have ab:=hI w6 (.cells (stA s6) 201);have s2:=(I.o.gk.bx.keep ab I.o.gk.bx.z).cell 5 _ rfl;have s4:=(I.o.gk.bx.keep ab I.o.gk.bx.z).cell 3 _ rfl;dsimp only[stA]at s2 s4 HL;clear hT ab rd6 ho6;(try dsimp only);refine hK.out _ _ s3 (λhHeld=>?_);clear hK K;refine ie ?_;refine wpAnyH_ready (rs:=[1,6]) gh gj ?_;refine AllReadyH.cons rfl (λK hK=>?_) (AllReadyH.cons rfl (λK hK=>?_) (AllReadyH.nil))
  .go_simp;refine hK.out _ _ s3 (λhHeld=>?_);clear hK K;refine ie ?_;refine rD 6 λK hK=>?_;go_simp;refine hK.out _ _ s4 (λhHeld=>?_);clear hK K;refine ie ?_;refine rD 7 λK hK=>?_;refine Cw _ rfl (.tmp 32) (.tmp 37) 95 rfl (bs+1) 201 ti _ 10 88 underlying95 ao ae af ag IR.zs gm _ ms.length (BH ms) (by simp[Act.eval,Act.put]) HL.o.1 _ 1 1 (stV s6) (by simp[Act.eval,Act.put]) rfl HL.o.2 (Ja s6) gd gq gd (by simp<;>omega) _ rfl ?_;intro g cap w8 T V _ _;obtain⟨d1,d2,d3,Z⟩:=I.o.grown (s:=s6) T V;have aa:=AB Z;clear T V Z;refine hK.out _ _ d3 (λhHeld=>?_);clear hK K;refine ie ?_;refine tK 8 ?_;refine rD 9 λK hK=>?_;go_simp;refine hK.out _ _ (aa.o.gk.bx.cell 3 _ rfl) (λhHeld=>?_);clear hK K;refine ie ?_;refine wpAnyH_done gh ?_ _;have ah:ga (E5 (Int64.ofNat rn) (m-1) l6 e6 (ms++[s6])=Q):=AB (by have q:=ad.o;rw[HT.o]at q;exact q);clear k1 s0 s5 f5 ad HT HG I HL;clear d1 d2 d3 s1 s2 s3 s4;(go_wp2_with fail);go_roundw;case rel=>exact⟨m-1,A6,c6,l6,e6,_,cap,ms++[s6],by have:=HM.o;congr 1;omega,by have:=HM.o;rw[AR,Ea];omega,ah,aa.o⟩
   case measure=>have:=HM.o;simp[intOf];omega
  go_simp;refine hK.out _ _ s4 (λhHeld=>?_);clear hK K;refine ie ?_;refine rD 1 λK hK=>?_;go_simp;refine hK.out _ _ s4 (λhHeld=>?_);clear hK K;refine ie ?_;refine rD 7 λK hK=>?_;refine Cw _ rfl (.tmp 32) (.tmp 37) 95 rfl (bs+1) 201 ti _ 10 88 underlying95 ao ae af ag IR.zs gm _ ms.length (BH ms) (by simp[Act.eval,Act.put]) HL.o.1 _ 1 1 (stV s6) (by simp[Act.eval,Act.put]) rfl HL.o.2 (Ja s6) gd gq gd (by simp<;>omega) _ rfl ?_;intro g cap w8 T V _ _;obtain⟨d1,d2,d3,Z⟩:=I.o.grown (s:=s6) T V;have aa:=AB Z;clear T V Z;refine hK.out _ _ d3 (λhHeld=>?_);clear hK K;refine ie ?_;refine tK 8 ?_;refine rD 9 λK hK=>?_;go_simp;refine hK.out _ _ (aa.o.gk.bx.cell 3 _ rfl) (λhHeld=>?_);clear hK K;refine ie ?_;refine wpAnyH_done gh ?_ _;have ah:ga (E5 (Int64.ofNat rn) (m-1) l6 e6 (ms++[s6])=Q):=AB (by have q:=ad.o;rw[HT.o]at q;exact q);clear k1 s0 s5 f5 ad HT HG I HL;clear d1 d2 d3 s1 s2 s3 s4;go_wp2_with fail
  go_roundw;case rel=>exact⟨m-1,A6,c6,l6,e6,_,cap,ms++[s6],by have:=HM.o;congr 1;omega,by have:=HM.o;rw[AR,Ea];omega,ah,aa.o⟩
  case measure=>have:=HM.o;simp[intOf];omega
