/- For CatalogEntries. -/
import Derived.Test.YtpfofefecamkfaaGreatDoorZ0
namespace Go.Proofs.YtpfofefecamkfaaGreatDoor
open Go.RowKit Proofs.Tryz
set_option maxRecDepth 100000
set_option maxHeartbeats 16000000
set_option linter.all false
theorem Mw (w s):Calls prog 80 #[.string s] w λe w'=>e = .returned (.bool (named s))/\Below w.heap.size w w':=by
 by_cases h1:s.size<1
 .have hn:named s=false:=by unfold named;rw[AG gd];rfl
  rw[hn];have t1:=gG s.size 1;clear h1;go_enter func80,ntmps80;go_wp2_with fail
  go_ret;exact⟨rfl,AC _ _⟩
 have t1:=gH s.size 1;by_cases h2:16<s.size
 .have hn:named s=false:=by unfold named;rw[AG (show ¬s.size<=16 by omega)];simp
  rw[hn];have t2:=gG 16 s.size;clear h1 h2;go_enter func80,ntmps80;go_wp2_with fail
  go_ret;exact⟨rfl,AC _ _⟩
 have t2:=gH 16 s.size;have hn:named s=(Fn s&&Fo s):=by unfold named;rw[AF (show 1<=s.size by omega),AF (show s.size<=16 by omega)];rfl
 rw[hn];have:s.size<=16:=gd;clear h1 h2 hn;cases O:Fn s with
 | false=>
   go_enter func80,ntmps80;go_wp2_with (refine(clean _ _).mono ?_;rintro e w' ⟨rfl,pos,rfl⟩;rw[O])
   go_ret;exact⟨rfl,(AC _ _).alloc (AD _) _⟩
 | true=>
   go_enter func80,ntmps80;go_wp2_with (refine(clean _ _).mono ?_;rintro e w' ⟨rfl,pos,rfl⟩;rw[O])
   obtain⟨w1,I⟩:=ib (w.iter s pos);have G:Below w.heap.size w w1:=by rw[I];exact(AC _ _).alloc (AD _) _
   rw[<-I];clear I;(go_wp2_with fail);go_loopw [3,4,24,35] (λ_ _ _ _ w'=>∃(pos b:Nat),w'=w1.iter s pos/\ga (Bx s (FR s) b pos=Fo s)/\s.size<=pos+b) (λ_ _ _ _ w'=>s.size-w'.iterPos w1.heap.size);case atStart=>exact⟨0,s.size,rfl,AB rfl,gd⟩
   case round=>
    obtain⟨pos,b,rfl,hc,hb⟩:=hrel;by_cases hp:pos<s.size
    .have Z:∀ty,(Instr.next (iq w1.heap.size 0) true ty).run prog (w1.iter s pos) = .ok (.tuple #[.bool true,io pos,.int .i32 (sgn s pos:Int)]) (w1.iter s (pos+wid s pos)):=λty=>run_next_any w1 s pos ty hp;have aa:=F8 s pos hp;have HM:=AB (show s.size-(pos+wid s pos)<s.size-pos by omega);have HP:=AB hp;have HB:=AB hb;clear hb;generalize T:sgn s pos=c at *;have V:=AB T;clear T aa hp;go_wp2_with fail
     all_goals first
      | (go_roundw
         case rel=>
          have hq:FR s pos=true:=by
           rw[Iw s pos c V.o];apply AF;try simp only[Ap,AQ]at *
           omega
          obtain⟨b',h1,h2⟩:=EB s _ b pos HP.o HB.o hq;exact⟨_,b',rfl,AB (h1▸hc.o),h2⟩
         case measure=>simpa using HM.o)
      | (go_ret
         have hq:FR s pos=false:=by
          rw[Iw s pos c V.o];apply AG;try simp only[AQ]at *
          omega
         have he:=hc.o;rw[Dm s _ b pos HP.o HB.o hq]at he;exact⟨by rw[<-he];rfl,G.alloc G.size _⟩)
    have Z:∀ty,(Instr.next (iq w1.heap.size 0) true ty).run prog (w1.iter s pos)=_:=λty=>run_next_end w1 s pos ty hp;have he:=hc.o;rw[GV s _ b pos hp]at he;have HE:=AB he;clear he;(go_wp2_with fail);go_ret;exact⟨by rw[<-HE.o];rfl,G.alloc G.size _⟩
theorem Su (w t b0)(hb0:b0=byt t 0)(hc:194<=b0/\b0<224)(ht:0<t.size)(hmax:t.size<9223372036854775807):
 Calls prog 185 #[.string t] w λe w'=>Bd t e/\w=w':=by
 have:=IB t;have:=IA t;have aa:=Dn t 0;have ah:=AB hb0;have ab:(byt t 0:Int)=(b0:Int):=by rw[<-hb0]
 have s0:=gH b0 128;have s1:=gI 194 b0;have s2:=gG b0 224;have HC:=AB (show Cls 2 128 192 (byt t 0)by rw[<-hb0];unfold Cls;omega);have ai:b0<256:=by rw[hb0];exact aa
 clear hb0 aa;by_cases hn:t.size<2
 .have sn:=gG t.size 2;have HN:=AB hn;clear hn;go_enter func185,ntmps185;go_wp2_with fail
  go_ret3;exact⟨Bd.bad t (by rw[EC];exact KN (b:=byt t) HC.o HN.o),rfl⟩
 have sn:=gH t.size 2;have aj:2<=t.size:=gd;clear hn;go_enter func185,ntmps185;go_wp2_with fail
 go_loopw [8,9] (λnv iv wr=>∃(j v:Nat),j<2/\iv = io ((j+1:Nat):Int)/\nv = io v/\ga (v=val (byt t) (byt t 0-192) j)/\ga (∀i,1<=i->i<j+1->128<=byt t i/\byt t i<192)/\w=wr) (λ_ iv _=>2-(intOf iv).toNat);case atStart=>exact⟨0,b0-192,gd,rfl,by go_num,AB (by rw[ah.o];rfl),AB (λi h1 h2=>gd),rfl⟩
 case round=>
  obtain⟨j,v,hj,rfl,rfl,hv,G,rfl⟩:=hrel;clear s0 s1 s2 sn ab hc ai;have ad:=KP HC.o j G.o hj;rw[<-hv.o]at ad;obtain⟨au,I,av⟩:=ad;obtain⟨i,hi⟩:=ib (j+1);rw[<-hi]at G I ⊢;by_cases O:i<2
  .have I:=I O;have si:=gG i 2;have:i<t.size:=gd;obtain⟨x,hx⟩:=ib (byt t i);have:x<256:=by rw[hx];exact Dn t i
   have:((byt t i:Nat):Int)=(x:Int):=by rw[hx]
   have HX:=AB hx;have HI:=AB hi;have T:=AB O;clear hi hx O hj;by_cases Z:x<128
   .have ak:=gG x 128;have am:=AB Z;clear Z;(go_wp2_with fail);go_ret3;exact⟨Bd.bad t (by rw[EC];exact Gx (b:=byt t) HC.o i (by rw[HI.o];omega) T.o (Dn t i) (.inl (by rw[<-HX.o];exact am.o))),rfl⟩
   have ak:=gH x 128;by_cases ae:192<=x
   .have ao:=gI 192 x;have ap:=AB ae;clear Z ae;(go_wp2_with fail);go_ret3;exact⟨Bd.bad t (by rw[EC];exact Gx (b:=byt t) HC.o i (by rw[HI.o];omega) T.o (Dn t i) (.inr (by rw[<-HX.o];exact ap.o))),rfl⟩
   have ao:=gJ 192 x;have af:=AB (show 128<=x/\x<192 by omega);(go_wp2_with fail);go_roundw;case rel=>
    refine⟨i,v * 64+x-128,T.o,by go_num,congrArg _ (by have:=af.o;omega),AB ?_,AB ?_,trivial⟩
    .have e:=KQ (byt t) (byt t 0-192) j;rw[<-HI.o,<-hv.o,<-HX.o]at e;exact e.symm
    intro y h1 h2;by_cases hy:y=i
    .rw[hy,<-HX.o];exact af.o
    exact G.o y h1 gd
   case measure=>exact Co i 2 T.o
  have si:=gH i 2;have ag:i=2:=gd;have hd:Utf8.decode t 0=if v<128\/1114111<v\/55296<=v/\v<57344 then (65533,1) else (v,2):=by
   rw[EC,KO (b:=byt t) HC.o aj (λy h1 h2=>G.o y h1 gd),hv.o,show j=2-1 by omega]
  have HD:=AB hd;clear hd O hi I hj ag;by_cases V:v<128\/1114111<v\/55296<=v/\v<57344
  .have HE:=AB (show Utf8.decode t 0=(65533,1)by rw[HD.o,AJ V]);clear HD;go_wp2_with fail
   all_goals first
    | (go_ret3;exact⟨Bd.bad t HE.o,rfl⟩)
    | (exfalso;omega)
  have HE:=AB (show Utf8.decode t 0=(v,2)by rw[HD.o,AE V]);clear HD;go_wp2_with fail
  all_goals first
   | (go_ret3;exact⟨Bd.of t v 2 true HE.o gj,rfl⟩)
   | (exfalso;omega)
theorem Sv (w t b0)(hb0:b0=byt t 0)(hc:224<=b0/\b0<240)(ht:0<t.size)(hmax:t.size<9223372036854775807):
 Calls prog 185 #[.string t] w λe w'=>Bd t e/\w=w':=by
 have:=IB t;have:=IA t;have aa:=Dn t 0;have ah:=AB hb0;have ab:(byt t 0:Int)=(b0:Int):=by rw[<-hb0]
 have s0:=gH b0 128;have s1:=gI 194 b0;have s2:=gH b0 224;have s3:=gI 224 b0;have s4:=gG b0 240;have HC:=AB (show Cls 3 2048 224 (byt t 0)by rw[<-hb0];unfold Cls;omega);have ai:b0<256:=by rw[hb0];exact aa
 clear hb0 aa;by_cases hn:t.size<3
 .have sn:=gG t.size 3;have HN:=AB hn;clear hn;go_enter func185,ntmps185;go_wp2_with fail
  go_ret3;exact⟨Bd.bad t (by rw[EC];exact KN (b:=byt t) HC.o HN.o),rfl⟩
 have sn:=gH t.size 3;have aj:3<=t.size:=gd;clear hn;go_enter func185,ntmps185;go_wp2_with fail
 go_loopw [8,9] (λnv iv wr=>∃(j v:Nat),j<3/\iv = io ((j+1:Nat):Int)/\nv = io v/\ga (v=val (byt t) (byt t 0-224) j)/\ga (∀i,1<=i->i<j+1->128<=byt t i/\byt t i<192)/\w=wr) (λ_ iv _=>3-(intOf iv).toNat);case atStart=>exact⟨0,b0-224,gd,rfl,by go_num,AB (by rw[ah.o];rfl),AB (λi h1 h2=>gd),rfl⟩
 case round=>
  obtain⟨j,v,hj,rfl,rfl,hv,G,rfl⟩:=hrel;clear s0 s1 s2 s3 s4 sn ab hc ai;have ad:=KP HC.o j G.o hj;rw[<-hv.o]at ad;obtain⟨au,I,av⟩:=ad;obtain⟨i,hi⟩:=ib (j+1);rw[<-hi]at G I ⊢;by_cases O:i<3
  .have I:=I O;have si:=gG i 3;have:i<t.size:=gd;obtain⟨x,hx⟩:=ib (byt t i);have:x<256:=by rw[hx];exact Dn t i
   have:((byt t i:Nat):Int)=(x:Int):=by rw[hx]
   have HX:=AB hx;have HI:=AB hi;have T:=AB O;clear hi hx O hj;by_cases Z:x<128
   .have ak:=gG x 128;have am:=AB Z;clear Z;(go_wp2_with fail);go_ret3;exact⟨Bd.bad t (by rw[EC];exact Gx (b:=byt t) HC.o i (by rw[HI.o];omega) T.o (Dn t i) (.inl (by rw[<-HX.o];exact am.o))),rfl⟩
   have ak:=gH x 128;by_cases ae:192<=x
   .have ao:=gI 192 x;have ap:=AB ae;clear Z ae;(go_wp2_with fail);go_ret3;exact⟨Bd.bad t (by rw[EC];exact Gx (b:=byt t) HC.o i (by rw[HI.o];omega) T.o (Dn t i) (.inr (by rw[<-HX.o];exact ap.o))),rfl⟩
   have ao:=gJ 192 x;have af:=AB (show 128<=x/\x<192 by omega);(go_wp2_with fail);go_roundw;case rel=>
    refine⟨i,v * 64+x-128,T.o,by go_num,congrArg _ (by have:=af.o;omega),AB ?_,AB ?_,trivial⟩
    .have e:=KQ (byt t) (byt t 0-224) j;rw[<-HI.o,<-hv.o,<-HX.o]at e;exact e.symm
    intro y h1 h2;by_cases hy:y=i
    .rw[hy,<-HX.o];exact af.o
    exact G.o y h1 gd
   case measure=>exact Co i 3 T.o
  have si:=gH i 3;have ag:i=3:=gd;have hd:Utf8.decode t 0=if v<2048\/1114111<v\/55296<=v/\v<57344 then (65533,1) else (v,3):=by
   rw[EC,KO (b:=byt t) HC.o aj (λy h1 h2=>G.o y h1 gd),hv.o,show j=3-1 by omega]
  have HD:=AB hd;clear hd O hi I hj ag;by_cases V:v<2048\/1114111<v\/55296<=v/\v<57344
  .have HE:=AB (show Utf8.decode t 0=(65533,1)by rw[HD.o,AJ V]);clear HD;go_wp2_with fail
   all_goals first
    | (go_ret3;exact⟨Bd.bad t HE.o,rfl⟩)
    | (exfalso;omega)
  have HE:=AB (show Utf8.decode t 0=(v,3)by rw[HD.o,AE V]);clear HD;go_wp2_with fail
  all_goals first
   | (go_ret3;exact⟨Bd.of t v 3 true HE.o gj,rfl⟩)
   | (exfalso;omega)
theorem Sw (w t b0)(hb0:b0=byt t 0)(hc:240<=b0/\b0<245)(ht:0<t.size)(hmax:t.size<9223372036854775807):
 Calls prog 185 #[.string t] w λe w'=>Bd t e/\w=w':=by
 have:=IB t;have:=IA t;have aa:=Dn t 0;have ah:=AB hb0;have ab:(byt t 0:Int)=(b0:Int):=by rw[<-hb0]
 have s0:=gH b0 128;have s1:=gI 194 b0;have s2:=gH b0 224;have s3:=gI 224 b0;have s4:=gH b0 240;have s5:=gI 240 b0;have s6:=gG b0 245;have HC:=AB (show Cls 4 65536 240 (byt t 0)by rw[<-hb0];unfold Cls;omega);have ai:b0<256:=by rw[hb0];exact aa
 clear hb0 aa;by_cases hn:t.size<4
 .have sn:=gG t.size 4;have HN:=AB hn;clear hn;go_enter func185,ntmps185;go_wp2_with fail
  go_ret3;exact⟨Bd.bad t (by rw[EC];exact KN (b:=byt t) HC.o HN.o),rfl⟩
 have sn:=gH t.size 4;have aj:4<=t.size:=gd;clear hn;go_enter func185,ntmps185;go_wp2_with fail
 go_loopw [8,9] (λnv iv wr=>∃(j v:Nat),j<4/\iv = io ((j+1:Nat):Int)/\nv = io v/\ga (v=val (byt t) (byt t 0-240) j)/\ga (∀i,1<=i->i<j+1->128<=byt t i/\byt t i<192)/\w=wr) (λ_ iv _=>4-(intOf iv).toNat);case atStart=>exact⟨0,b0-240,gd,rfl,by go_num,AB (by rw[ah.o];rfl),AB (λi h1 h2=>gd),rfl⟩
 case round=>
  obtain⟨j,v,hj,rfl,rfl,hv,G,rfl⟩:=hrel;clear s0 s1 s2 s3 s4 s5 s6 sn ab hc ai;have ad:=KP HC.o j G.o hj;rw[<-hv.o]at ad;obtain⟨au,I,av⟩:=ad;obtain⟨i,hi⟩:=ib (j+1);rw[<-hi]at G I ⊢;by_cases O:i<4
  .have I:=I O;have si:=gG i 4;have:i<t.size:=gd;obtain⟨x,hx⟩:=ib (byt t i);have:x<256:=by rw[hx];exact Dn t i
   have:((byt t i:Nat):Int)=(x:Int):=by rw[hx]
   have HX:=AB hx;have HI:=AB hi;have T:=AB O;clear hi hx O hj;by_cases Z:x<128
   .have ak:=gG x 128;have am:=AB Z;clear Z;(go_wp2_with fail);go_ret3;exact⟨Bd.bad t (by rw[EC];exact Gx (b:=byt t) HC.o i (by rw[HI.o];omega) T.o (Dn t i) (.inl (by rw[<-HX.o];exact am.o))),rfl⟩
   have ak:=gH x 128;by_cases ae:192<=x
   .have ao:=gI 192 x;have ap:=AB ae;clear Z ae;(go_wp2_with fail);go_ret3;exact⟨Bd.bad t (by rw[EC];exact Gx (b:=byt t) HC.o i (by rw[HI.o];omega) T.o (Dn t i) (.inr (by rw[<-HX.o];exact ap.o))),rfl⟩
   have ao:=gJ 192 x;have af:=AB (show 128<=x/\x<192 by omega);(go_wp2_with fail);go_roundw;case rel=>
    refine⟨i,v * 64+x-128,T.o,by go_num,congrArg _ (by have:=af.o;omega),AB ?_,AB ?_,trivial⟩
    .have e:=KQ (byt t) (byt t 0-240) j;rw[<-HI.o,<-hv.o,<-HX.o]at e;exact e.symm
    intro y h1 h2;by_cases hy:y=i
    .rw[hy,<-HX.o];exact af.o
    exact G.o y h1 gd
   case measure=>exact Co i 4 T.o
  have si:=gH i 4;have ag:i=4:=gd;have hd:Utf8.decode t 0=if v<65536\/1114111<v\/55296<=v/\v<57344 then (65533,1) else (v,4):=by
   rw[EC,KO (b:=byt t) HC.o aj (λy h1 h2=>G.o y h1 gd),hv.o,show j=4-1 by omega]
  have HD:=AB hd;clear hd O hi I hj ag;by_cases V:v<65536\/1114111<v\/55296<=v/\v<57344
  .have HE:=AB (show Utf8.decode t 0=(65533,1)by rw[HD.o,AJ V]);clear HD;go_wp2_with fail
   all_goals first
    | (go_ret3;exact⟨Bd.bad t HE.o,rfl⟩)
    | (exfalso;omega)
  have HE:=AB (show Utf8.decode t 0=(v,4)by rw[HD.o,AE V]);clear HD;go_wp2_with fail
  all_goals first
   | (go_ret3;exact⟨Bd.of t v 4 true HE.o gj,rfl⟩)
   | (exfalso;omega)
theorem Sz (w t)(ht:0<t.size)(hmax:t.size<9223372036854775807):
 Calls prog 185 #[.string t] w λe w'=>Bd t e/\w=w':=by
 have h:byt t 0<128\/(128<=byt t 0/\byt t 0<194\/245<=byt t 0)\/(194<=byt t 0/\byt t 0<224)\/(224<=byt t 0/\byt t 0<240)\/(240<=byt t 0/\byt t 0<245):=gd;rcases h with h|h|h|h|h
 .exact Sx w t _ rfl h ht
 .exact Sy w t _ rfl h ht
 .exact Su w t _ rfl h ht hmax
 .exact Sv w t _ rfl h ht hmax
 exact Sw w t _ rfl h ht hmax
theorem Fr (w id n c A l)(hr:Rd w w.heap.size 4 A n c (AZ l)):
 Calls prog 36 #[.agg (dR id A n c)] w λe w'=>e = .returned (io (check id l:Int))/\Below w.heap.size w w':=by
 obtain rfl:=hr.lenF;have aR:=id.toNat_lt;by_cases h0:id.toNat<1\/l.length<1\/8<l.length
 .have e0:check id l=1:=by unfold check;rw[AJ h0]
  rw[e0];have aO:decide ((id.toNat:Int)<1)=true\/(decide ((id.toNat:Int)<1)=false/\decide ((l.length:Int)<1)=true)\/(decide ((id.toNat:Int)<1)=false/\decide ((l.length:Int)<1)=false/\decide ((8:Int)<(l.length:Int))=true):=by
   by_cases q1:id.toNat=0
   .exact .inl (by rw[q1];rfl)
   have q2:=gH id.toNat 1;by_cases q3:l.length=0
   .exact .inr (.inl ⟨q2,by rw[q3];rfl⟩)
   exact .inr (.inr ⟨q2,AG gd,AF gd⟩)
  clear h0 e0;rcases aO with t1|⟨t1,t2⟩|⟨t1,t2,t3⟩;all_goals
   go_enter func36,ntmps36;(go_wp2_with fail);go_ret;exact⟨rfl,(AC _ _).alloc (AD _) _⟩
 have e0:check id l=Cp l l.length 0:=by unfold check;rw[AE h0]
 rw[e0];have t1:=gH id.toNat 1;have t2:=gH l.length 1;have t3:=gH 8 l.length;have aS:l.length<=8:=gd;clear h0 e0;go_enter func36,ntmps36;go_wp2_with fail
 obtain⟨w1,ak⟩:=ib (w.alloc (.cells (dR id A l.length c) 33));have G:Below w.heap.size w w1:=by rw[ak];exact(AC _ _).alloc (AD _) _
 have aD:w.heap.size<w1.heap.size:=by rw[ak];simp
 have c1:w1.cell? (gX w.heap.size 1)=some (.slice A l.length c):=by rw[ak];simp
 have aE:=(hr.below G).more G.size;rw[<-ak];clear ak;obtain⟨bx,aw⟩:=ib w.heap.size;rw[<-aw]at aD c1 ⊢;have aT:=AB aw;clear aw;go_loopw [3,24] (λpv iv wr=>∃k:Nat,k<=l.length/\pv = im (D8 l k:Int)/\iv = io k/\ga (Cp l (l.length-k) k=Cp l l.length 0)/\Below w1.heap.size w1 wr) (λ_ iv _=>l.length-(intOf iv).toNat);case atStart=>exact⟨0,AU _,rfl,rfl,AB rfl,AC _ _⟩
 case round=>
  obtain⟨k,hk,rfl,rfl,hf,af⟩:=hrel;have Z:=af;by_cases I:k<l.length
  .obtain⟨b,off,rfl,hb,f0,f1,f2,f3⟩:=(aE.below af).fd I;generalize aF:l.getD k default=f at *;have HF:=AB aF;clear aF;generalize aG:D8 l k=pid at *;have aH:=AB aG;clear aG;by_cases ax:f.id.toNat<=pid
   .have z1:=gI f.id.toNat pid;have he:=AB (hf.o.symm.trans (Dp I (J0 HF.o (by rw[aH.o];exact ax)) gm));(go_wp2_with fail);go_ret;exact⟨by rw[he.o];rfl,AM G G.size (af.alloc af.size _)⟩
   have ao:ga (¬f.id.toNat<=D8 l k):=AB (by rw[aH.o];exact ax);(go_wp2_with fail);obtain⟨w2,aa⟩:=ib (wr.alloc (.cells (fDV f) 89));rw[<-aa];have ay:Below w1.heap.size w1 w2:=by rw[aa];exact af.alloc af.size _
   have O:wr.heap.size<w2.heap.size:=by rw[aa];simp
   obtain⟨bf,ai⟩:=ib wr.heap.size;have d0:w2.cell? (gX bf 0)=some (im f.id.toNat):=by rw[aa,ai];simp
   have d1:w2.cell? (gX bf 1)=some (.string f.name):=by rw[aa,ai];simp
   have d2:w2.cell? (gX bf 2)=some (ip f.kind.toNat):=by rw[aa,ai];simp
   have d3:w2.cell? (gX bf 3)=some (.bool f.need):=by rw[aa,ai];simp
   rw[<-ai]at O ⊢;clear ai aa f0 f1 f2 f3;refine(Mw w2 f.name).mono ?_;rintro e w3 ⟨rfl,hb3⟩;have e0:=(hb3.cell (p:=gX bf 0) O).trans d0;have e1:=(hb3.cell (p:=gX bf 1) O).trans d1;have e2:=(hb3.cell (p:=gX bf 2) O).trans d2;have e3:=(hb3.cell (p:=gX bf 3) O).trans d3;have ab:bf<w3.heap.size:=AV O hb3.size;have T:Below w1.heap.size w1 w3:=AM ay ay.size hb3;have aP:=(T.cell (p:=gX bx 1) aD).trans c1;have az:=aE.below T;have aI:k<=c:=AS (Ad I) az.le;have ar:Rd w3 w1.heap.size 4 (gY b off) k c (AZ (l.take k)):=by
    have:=az.pre (hi:=k) (Ad I)
    rwa [J7]at this
   have aJ:(l.take k).length<=1000000:=by rw[BN];omega
   have au:=NJ w3 _ k c _ (l.take k) ar T.size aJ 82 #[iq bf 0] _ TK (TJ w3 bf 0 f.name ab e1);obtain⟨hv,V⟩:=ib (CW (l.take k) f.name);have ag:Calls prog 81 #[.slice (gY b off) k c,.func (.func 82) #[] #[iq bf 0]] w3 λe w'=>e = .returned (.bool hv)/\Below w3.heap.size w3 w':=by rw[V];exact au
   have aK:=AB V;have kc:=λw'=>EN Ex (gY b off) l.length c .i64 (k:Int) k rfl aI w';clear V au ar aJ d0 d1 d2 d3 az;cases ap:named f.name with
   | false=>
     have he:=AB (hf.o.symm.trans (Dp I (IC HF.o ao.o (by rw[ap];rfl)) gm));clear ag kc;(go_wp2_with fail);go_ret;exact⟨by rw[he.o];rfl,AM G G.size T⟩
   | true=>
     (go_wp2_with fail);clear kc;refine ag.mono ?_;rintro e w4 ⟨rfl,hb4⟩;have g0:=(hb4.cell (p:=gX bf 0) ab).trans e0;have g2:=(hb4.cell (p:=gX bf 2) ab).trans e2;have g3:=(hb4.cell (p:=gX bf 3) ab).trans e3;have Z:Below w1.heap.size w1 w4:=AM T T.size hb4;have V:=aK.o.symm;clear ag e0 e1 e2 e3 aP hb4 hb3 ay O ab T aI;cases hv with
     | true=>
       have he:=AB (hf.o.symm.trans (Dp I (IC HF.o ao.o (by rw[ap,V];rfl)) gm));(go_wp2_with fail);go_ret;exact⟨by rw[he.o];rfl,AM G G.size Z⟩
     | false=>
       have aj:ga ((!named f.name||CW (l.take k) f.name)=false):=AB (by rw[ap,V];rfl);clear ap V;obtain⟨kn,aq⟩:=ib f.kind.toNat
       have aL:kn<256:=by rw[aq];exact f.kind.toNat_lt
       rw[<-aq]at g2;have ah:=AB aq;clear aq;(go_wp2_with fail);refine(NK w4 kn aL).mono ?_;rintro e w5 ⟨rfl,rfl⟩;by_cases g1:kn<1\/3<kn
       .rw[AG (show ¬(1<=kn/\kn<=3)by omega)];have he:=AB (hf.o.symm.trans (Dp I (N3 HF.o ao.o aj.o (by rw[<-ah.o];exact g1)) gm));clear g1;(go_wp2_with fail);go_ret;exact⟨by rw[he.o];rfl,AM G G.size Z⟩
       rw[AF (show 1<=kn/\kn<=3 by omega)];have G1:=AB (show ¬(f.kind.toNat<1\/3<f.kind.toNat)by rw[<-ah.o];exact g1);clear g1;generalize aM:f.need=nd at *;have am:=AB aM;clear aM;have aN:=f.id.toNat_lt;have aB:ga (D8 l (k+1)=f.id.toNat):=AB (by rw[TL,HF.o]);have ad:=ao;obtain⟨fid,av⟩:=ib f.id.toNat;rw[<-av]at g0 aB ax aN;clear av;by_cases ae:k=0
       .have aQ:((k:Int)==0)=true:=by rw[ae];rfl
        cases nd with
        | false=>
          have he:=AB (hf.o.symm.trans (Dp I (Gz HF.o ad.o aj.o G1.o (by rw[am.o,<-ah.o];simp[ae])) gm));(go_wp2_with fail);go_ret;exact⟨by rw[he.o];rfl,AM G G.size Z⟩
        | true=>
          by_cases aC:kn=2
          .have he:=AB (hf.o.symm.trans (Dp I (Gz HF.o ad.o aj.o G1.o (by rw[am.o,<-ah.o];simp[ae,aC])) gm));have s3:((kn:Int)==2)=true:=by rw[aC];rfl
           (go_wp2_with fail);go_ret;exact⟨by rw[he.o];rfl,AM G G.size Z⟩
          have he:=AB ((Iz I (J1 HF.o ad.o aj.o G1.o (by rw[am.o,<-ah.o];simp[ae,aC]))).symm.trans hf.o);have s3:=gL kn 2;(go_wp2_with fail);go_roundw;case rel=>exact⟨k+1,I,by rw[aB.o],by go_num,he,Z⟩
          case measure=>first|exact Co k _ I|(simp[intOf,ae];omega)
       have aU:0<k:=gd;have aQ:=gL k 0;cases nd with
       | true=>
         have he:=AB (hf.o.symm.trans (Dp I (Gz HF.o ad.o aj.o G1.o (by rw[am.o,<-ah.o];simp[ae])) gm));(go_wp2_with fail);go_ret;exact⟨by rw[he.o];rfl,AM G G.size Z⟩
       | false=>
         have he:=AB ((Iz I (J1 HF.o ad.o aj.o G1.o (by rw[am.o,<-ah.o];simp[ae]))).symm.trans hf.o);(go_wp2_with fail);go_roundw;case rel=>exact⟨k+1,I,by rw[aB.o],by go_num,he,Z⟩
         case measure=>first|exact Co k _ I|(simp[intOf,ae];omega)
  obtain rfl:k=l.length:=gd;have he:=hf.o;rw[Nat.sub_self]at he;have HE:=AB he.symm;clear he;go_wp2_with fail
  go_ret;exact⟨by rw[HE.o];rfl,AM G G.size af⟩
theorem JB (w B n c A l)(hr:Rd w B 1 A n c (AO l)):
 Calls prog 168 #[.slice A n c] w (TY w l):=by
 obtain rfl:n=l.length:=by have:=hr.len;rw[Bt]at this;omega
 have ad:l.length<=9223372036854775807:=by have h1:=hr.le;have h2:=hr.cap;unfold maxLen at h2;omega
 go_enter func168,ntmps168;go_wp2;go_loop [5,10] (λnv iv=>∃(k acc:Nat),k<=l.length/\k<=9/\iv = io k/\nv = il acc/\ga (Var.get l=Var.getL k acc (l.drop k))/\ga (acc<2^(7 * k))) (λ_ i=>l.length-(intOf i).toNat);case atStart=>exact⟨0,0,gd,gd,rfl,rfl,AB rfl,AB gm⟩
 case round=>
  obtain⟨k,acc,hk,V,rfl,rfl,hg,G⟩:=hrel;by_cases Z:k<l.length
  .obtain⟨b,off,rfl,_,hc⟩:=hr.cellAt (k:=k) (by rw[Bt];exact Z);obtain⟨x,hx⟩:∃x:UInt8,x=l[k]:=⟨_,rfl⟩;have aa:w.cell? (gX b (off+k))=some (ip x.toNat):=by rw[hc,hx];simp[AO,DG]
   have I:=x.toNat_lt;clear hc;have HD:=AB (TX l k x Z hx);clear hx;by_cases h9:k=9/\1<x.toNat
   .obtain⟨rfl,h1⟩:=h9;have t2:decide ((1:Int)<(x.toNat:Int))=true:=gt;have hv:Var.get l=(0,0,31):=by rw[hg.o,HD.o];simp[Var.getL,h1]
    have HV:=AB hv;clear hv;go_wp2;go_ret3;exact⟨by rw[HV.o];rfl,rfl⟩
   by_cases hc:x.toNat<128
   .have t3:decide ((x.toNat:Int)<128)=true:=gt;have O:=AB (NP acc k x.toNat V I G.o (by intro h;omega));by_cases h0:x.toNat=0/\0<k
    .have hv:Var.get l=(0,0,31):=by
      rw[hg.o,HD.o];simp only[Var.getL];rw[AE h9,AJ hc,AJ h0]
     have HV:=AB hv;clear hv;have t4:((x.toNat:Int)==0)=true:=gt;have t5:decide (0<k)=true:=gt;by_cases T:k=9
     .subst T;have t2:decide ((1:Int)<(x.toNat:Int))=false:=gt;clear h9 h0;go_wp2;go_ret3;exact⟨by rw[HV.o];rfl,rfl⟩
     have t1:((k:Int)==9)=false:=gt;clear h9 h0;go_wp2;go_ret3;exact⟨by rw[HV.o];rfl,rfl⟩
    have hv:Var.get l=(acc+x.toNat % 128 * 2^(7 * k),k+1,0):=by
     rw[hg.o,HD.o];simp only[Var.getL];rw[AE h9,AJ hc,AE h0]
    have HV:=AB hv;clear hv;by_cases ab:x.toNat=0
    .obtain rfl:k=0:=gd;simp only[Nat.add_zero]at aa;have t4:((x.toNat:Int)==0)=true:=gt;have t1:(((0:Nat):Int)==9)=false:=gm;clear h9 h0 ab;go_wp2;go_ret3;exact⟨by rw[HV.o];have h3:=O.o;simp only[Nat.mul_zero,Int.pow_zero,Int.mul_one]at h3;simp only[Nat.mul_zero];rw[<-h3];rfl,rfl⟩
    have t4:((x.toNat:Int)==0)=false:=gt;by_cases T:k=9
    .subst T;have t2:decide ((1:Int)<(x.toNat:Int))=false:=gt;clear h9 h0;go_wp2;go_ret3;exact⟨by rw[HV.o,<-O.o];rfl,rfl⟩
    have t1:((k:Int)==9)=false:=gt;clear h9 h0;go_wp2;go_ret3;exact⟨by rw[HV.o,<-O.o];rfl,rfl⟩
   have t3:decide ((x.toNat:Int)<128)=false:=gt;have t1:((k:Int)==9)=false:=gt;have O:=AB (NP acc k x.toNat V I G.o (by intro h;omega));have hv:Var.get l=Var.getL (k+1) (acc+x.toNat % 128 * 2^(7 * k)) (l.drop (k+1)):=by
    rw[hg.o,HD.o];simp only[Var.getL];rw[AE h9,AE hc]
   have HV:=AB hv;have ae:k+1<=9:=gd;clear hv h9;go_wp2;go_round;case rel=>exact⟨k+1,_,gd,gd,by go_num,by rw[<-O.o],AB HV.o,AB (TW _ _ _ G.o)⟩
   case measure=>simp[intOf];omega
  have hv:Var.get l=(0,0,30):=by rw[hg.o,List.drop_eq_nil_of_le gd];rfl
  have HV:=AB hv;clear hv;go_wp2;go_ret3;exact⟨by rw[HV.o];rfl,rfl⟩
theorem Tq (w s):Calls prog 203 #[.string s] w λe w'=>e = .returned (.bool (Aq s))/\Below w.heap.size w w':=by
 by_cases h1:s.size<1
 .rw[Kd h1];have t1:=gG s.size 1;clear h1;go_enter func203,ntmps203;go_wp2_with fail
  go_ret;exact⟨rfl,AC _ _⟩
 have t1:=gH s.size 1;by_cases h2:24<s.size
 .rw[Ga h2];have t2:=gG 24 s.size;clear h1 h2;go_enter func203,ntmps203;go_wp2_with fail
  go_ret;exact⟨rfl,AC _ _⟩
 have t2:=gH 24 s.size;rw[Ke gd gd];have:s.size<=24:=gd;obtain⟨res,I⟩:=ib (Bx s (BE s) s.size 0);rw[<-I];have O:=AB I;clear h1 h2 I;go_enter func203,ntmps203;go_wp2_with fail
 go_loopw [4] (λ_ w'=>∃(pos b:Nat),w'=w.iter s pos/\ga (Bx s (BE s) b pos=res)/\s.size<=pos+b) (λ_ w'=>s.size-w'.iterPos w.heap.size);case atStart=>exact⟨0,s.size,rfl,AB O.o.symm,gd⟩
 case round=>
  obtain⟨pos,b,rfl,hc,hb⟩:=hrel;by_cases hp:pos<s.size
  .have V:∀ty,(Instr.next (iq w.heap.size 0) true ty).run prog (w.iter s pos) = .ok (.tuple #[.bool true,io pos,.int .i32 (sgn s pos:Int)]) (w.iter s (pos+wid s pos)):=λty=>run_next_any w s pos ty hp;have Z:=F8 s pos hp;have HM:=AB (show s.size-(pos+wid s pos)<s.size-pos by omega);have HP:=AB hp;have HB:=AB hb;clear hb;generalize T:sgn s pos=c at *;have G:=AB T;clear T Z hp;rcases(show(c<45)\/(c=45)\/(c=46)\/(c=47)\/(48<=c/\c<=57)\/(58<=c/\c<=96)\/(97<=c/\c<=122)\/(123<=c)by omega)with g|g|g|g|g|g|g|g
   .have a1:=gJ 97 c;have a2:=gI c 122;have a3:=gJ 48 c;have a4:=gI c 57;have a5:=gL c 47;have a6:=gL c 45;have HO:ga (BE s pos=false):=AB (by rw[CJ s pos c G.o];exact AG gd);have HG:=AB g;clear g;(go_wp2_with fail);go_ret;have he:=hc.o;rw[Dm s _ b pos HP.o HB.o HO.o]at he;exact⟨by rw[<-he];rfl,(AC _ _).alloc (AD _) _⟩
   .have a1:=gJ 97 c;have a2:=gI c 122;have a3:=gJ 48 c;have a4:=gI c 57;have a5:=gL c 47;have a6:=gK c 45;have HO:ga (BE s pos=true):=AB (by rw[CJ s pos c G.o];exact AF gd);have HG:=AB g;clear g;(go_wp2_with fail);go_roundw;case rel=>
     obtain⟨b',h1,h2⟩:=EB s _ b pos HP.o HB.o HO.o;exact⟨_,b',rfl,AB (h1▸hc.o),h2⟩
    case measure=>simpa using HM.o
   .have a1:=gJ 97 c;have a2:=gI c 122;have a3:=gJ 48 c;have a4:=gI c 57;have a5:=gL c 47;have a6:=gL c 45;have HO:ga (BE s pos=false):=AB (by rw[CJ s pos c G.o];exact AG gd);have HG:=AB g;clear g;(go_wp2_with fail);go_ret;have he:=hc.o;rw[Dm s _ b pos HP.o HB.o HO.o]at he;exact⟨by rw[<-he];rfl,(AC _ _).alloc (AD _) _⟩
   .have a1:=gJ 97 c;have a2:=gI c 122;have a3:=gJ 48 c;have a4:=gI c 57;have a5:=gK c 47;have a6:=gL c 45;have HO:ga (BE s pos=true):=AB (by rw[CJ s pos c G.o];exact AF gd);have HG:=AB g;clear g;(go_wp2_with fail);go_roundw;case rel=>
     obtain⟨b',h1,h2⟩:=EB s _ b pos HP.o HB.o HO.o;exact⟨_,b',rfl,AB (h1▸hc.o),h2⟩
    case measure=>simpa using HM.o
   .have a1:=gJ 97 c;have a2:=gI c 122;have a3:=gI 48 c;have a4:=gI c 57;have a5:=gL c 47;have a6:=gL c 45;have HO:ga (BE s pos=true):=AB (by rw[CJ s pos c G.o];exact AF gd);have HG:=AB g;clear g;(go_wp2_with fail);go_roundw;case rel=>
     obtain⟨b',h1,h2⟩:=EB s _ b pos HP.o HB.o HO.o;exact⟨_,b',rfl,AB (h1▸hc.o),h2⟩
    case measure=>simpa using HM.o
   .have a1:=gJ 97 c;have a2:=gI c 122;have a3:=gI 48 c;have a4:=gJ c 57;have a5:=gL c 47;have a6:=gL c 45;have HO:ga (BE s pos=false):=AB (by rw[CJ s pos c G.o];exact AG gd);have HG:=AB g;clear g;(go_wp2_with fail);go_ret;have he:=hc.o;rw[Dm s _ b pos HP.o HB.o HO.o]at he;exact⟨by rw[<-he];rfl,(AC _ _).alloc (AD _) _⟩
   .have a1:=gI 97 c;have a2:=gI c 122;have a3:=gI 48 c;have a4:=gJ c 57;have a5:=gL c 47;have a6:=gL c 45;have HO:ga (BE s pos=true):=AB (by rw[CJ s pos c G.o];exact AF gd);have HG:=AB g;clear g;(go_wp2_with fail);go_roundw;case rel=>
     obtain⟨b',h1,h2⟩:=EB s _ b pos HP.o HB.o HO.o;exact⟨_,b',rfl,AB (h1▸hc.o),h2⟩
    case measure=>simpa using HM.o
   have a1:=gI 97 c;have a2:=gJ c 122;have a3:=gI 48 c;have a4:=gJ c 57;have a5:=gL c 47;have a6:=gL c 45;have HO:ga (BE s pos=false):=AB (by rw[CJ s pos c G.o];exact AG gd);have HG:=AB g;clear g;(go_wp2_with fail);go_ret;have he:=hc.o;rw[Dm s _ b pos HP.o HB.o HO.o]at he;exact⟨by rw[<-he];rfl,(AC _ _).alloc (AD _) _⟩
  have V:∀ty,(Instr.next (iq w.heap.size 0) true ty).run prog (w.iter s pos)=_:=λty=>run_next_end w s pos ty hp;have he:=hc.o;rw[GV s _ b pos hp]at he;have HE:=AB he;clear he;go_wp2_with fail
  go_ret;exact⟨by rw[<-HE.o];rfl,(AC _ _).alloc (AD _) _⟩
theorem JI (w sA sc ss nA nc ns)(cur:Nat)(hT:TabR w w.heap.size sA sc ss nA nc ns)(hmax:ns.length<=1000000)(hm:∀s∈ns,s.p.ms.length<=1000000)(id):
 Calls prog 73 #[.agg #[.slice sA ss.length sc,.slice nA ns.length nc,il cur],il id.toNat] w (Ki w ns (sIx ns id)):=by
 go_enter func73,ntmps73;go_wp2_with fail
 obtain⟨x1,V⟩:=gZ w #[.slice sA ss.length sc,.slice nA ns.length nc,il cur] 39;have ah:(w.alloc (.cells #[.slice sA ss.length sc,.slice nA ns.length nc,il cur] 39)).heap.size=w.heap.size+1:=gj;generalize w.alloc _=w1 at *;obtain⟨x2,Z⟩:=gZ w1 #[il id.toNat] 35;have ai:(w1.alloc (.cells #[il id.toNat] 35)).heap.size=w1.heap.size+1:=gj;have aa:=x1.keep Z x1.z;have ab:=AM V V.size Z;generalize w1.alloc _=w2 at *;obtain⟨x3,G⟩:=gZ w2 #[il 0,il 0,il 0,il 0,il 0,im 0,ir] 43;have ao:(w2.alloc (.cells #[il 0,il 0,il 0,il 0,il 0,im 0,ir] 43)).heap.size=w2.heap.size+1:=gj;have ad:=aa.keep G aa.z;have ae:=x2.keep G x2.z;have af:=AM ab ab.size G;generalize w2.alloc _=w3 at *;have ag:=hT.later af;rw[<-ah,<-ai];have:w.heap.size<w1.heap.size:=gd;have:w1.heap.size<w2.heap.size:=gd;have:w2.heap.size<w3.heap.size:=gd;have aj:w.heap.size<=w2.heap.size:=gd;generalize T:w.heap.size=b1 at *;generalize w1.heap.size=b2 at *;generalize w2.heap.size=b3 at *;have H1:=AB T;clear ah ai ao V Z G x1 aa x2 ab hT T;refine(Kf w3 _ nc nA ns ag.nrow hmax 144 _ _ Tt (Tv w3 b2 id ae.z (ae.cell 0 _ rfl))).mono ?_;rintro e w4 ⟨rfl,hb4⟩;obtain⟨i,hi⟩:=ib (sIx ns id);have I:=hi;unfold sIx at I;rw[<-I];have HI:=AB hi;have ap:=AB I;have X1:=ad.keep hb4 ad.z;have X3:=x3.keep hb4 x3.z;have O:=ag.later hb4;have ak:Below b1 w w4:=af.trans (hb4.mono gd);have:=hb4.size;clear hi I ad ae x3 ag af hb4;have t1:=X1.cell 1 _ rfl;have g0:=X3.cell 0 _ rfl;have k0:=X3.free 0 gj;have g1:=X3.cell 1 _ rfl;have k1:=X3.free 1 gj;have g2:=X3.cell 2 _ rfl;have k2:=X3.free 2 gj;have g3:=X3.cell 3 _ rfl;have k3:=X3.free 3 gj;have g4:=X3.cell 4 _ rfl;have k4:=X3.free 4 gj;have g5:=X3.cell 5 _ rfl;have k5:=X3.free 5 gj;have g6:=X3.cell 6 _ rfl;have k6:=X3.free 6 gj;by_cases h0:i<0
 .have hd:decide (i<0)=true:=AF h0;have HX:=AB X3;have HS:ga (Cg ns i=default/\decide (0<=i)=false):=AB ⟨by unfold Cg;rw[AE gd],AG gd⟩;clear h0 X1 X3 O;go_wp2_with fail
  (try simp only[Exit.inBlock,Exit.then]);refine AW (Dt (b:=b3) rfl _ _ rfl HX.o.set7) rfl ?_;rw[<-HI.o];refine⟨none,0,?_,?_,?_⟩
  .rw[HS.o.1,HS.o.2];rfl
  .rw[HS.o.1];exact Av _ _ _ _
  rw[H1.o];exact Hc ak aj
 have hd:decide (i<0)=false:=AG h0;obtain⟨hk,am,_⟩:=Ka ap.o.symm gd;generalize i.toNat=k at hk am;subst am;have:ns.length<=9223372036854775807:=gd;obtain⟨b,off,rfl,hb,f0,f1,f2,f3,f4,f5,f6⟩:=O.nrow.nl hk;have aq:=O.n_at hk;have ar:=hm _ (B9 hk);have HS:ga (Cg ns (k:Int)=(ns.getD k default).p/\decide ((0:Int)<=(k:Int))=true):=AB ⟨by unfold Cg;rw[AJ gd,BM],AF gd⟩;generalize ns.getD k default=f at *;have HX:=AB X3;clear X1 X3 O h0;go_wp2_with fail
 refine(JH w4 f.p f.A f.c aq ar).mono ?_;rintro e w5 ⟨A5,c5,rfl,hown5,hb5⟩;have Y3:=HX.o.keep hb5 HX.o.z;clear t1 f0 f1 f2 f3 f4 f5 f6 g0 k0 g1 k1 g2 k2 g3 k3 g4 k4 g5 k5 g6 k6;have g0:=Y3.cell 0 _ rfl;have k0:=Y3.free 0 gj;have g1:=Y3.cell 1 _ rfl;have k1:=Y3.free 1 gj;have g2:=Y3.cell 2 _ rfl;have k2:=Y3.free 2 gj;have g3:=Y3.cell 3 _ rfl;have k3:=Y3.free 3 gj;have g4:=Y3.cell 4 _ rfl;have k4:=Y3.free 4 gj;have g5:=Y3.cell 5 _ rfl;have k5:=Y3.free 5 gj;have g6:=Y3.cell 6 _ rfl;have k6:=Y3.free 6 gj;have au:Below b1 w w5:=ak.trans (hb5.mono gd);have HY:=AB Y3;have HO:=AB hown5;have av:b3<w4.heap.size:=HX.o.z;clear Y3 hown5 hb5;go_wp2_with fail
 (try simp only[Exit.inBlock,Exit.then]);refine AW (Dt (b:=b3) rfl _ _ rfl HY.o.set7) rfl ?_;rw[<-HI.o];refine⟨A5,c5,?_,?_,?_⟩
 .rw[HS.o.1,HS.o.2];rfl
 .rw[HS.o.1,H1.o];exact B4 (JG HO.o av) gd
 rw[H1.o];exact Hc au aj
theorem Tx (w n c A l)(hr:Rd w w.heap.size 1 A n c (AY l)):
 Calls prog 166 #[.slice A n c] w λe w'=>e = .returned (.bool (BJ l))/\Below w.heap.size w w':=by
 obtain rfl:=hr.lenT;by_cases g8:l.length<=8
 .have t1:=gH 8 l.length;have hs:BJ l=(List.range l.length).all λi=>Aq (l.getD i default) && !((l.take i).any λy=>(l.getD i default).toList==y.toList):=by
   unfold BJ;rw[AF g8,CV]
  obtain⟨res,O⟩:=ib (BJ l);rw[<-O];rw[hs]at O;have T:=AB O;clear hs O;go_enter func166,ntmps166;go_wp2_with fail
  go_loopw [10] (λiv wr=>∃k:Nat,k<=l.length/\iv = io k/\ga (∀j,j<k->(λi=>Aq (l.getD i default) && !((l.take i).any λy=>(l.getD i default).toList==y.toList)) j=true)/\Below w.heap.size w wr) (λiv _=>l.length-(intOf iv).toNat);case atStart=>exact⟨0,AU _,rfl,AB (λj h=>gd),AC _ _⟩
  case round=>
   obtain⟨k,hk,rfl,hf,G⟩:=hrel;by_cases V:k<l.length
   .have aa:=(hr.below G).more G.size;obtain⟨b1,o1,rfl,ae,p0⟩:=aa.st V;have hcut:=λW=>EN Ez (gY b1 o1) l.length c .i64 (k:Int) k rfl (by have:=hr.le;omega) W;have ad:=λW=>Ev Ez (gY b1 o1) l.length c .i64 (k:Int) k rfl (by have:=hr.le;omega) W;have Z:Rd wr wr.heap.size 1 (gY b1 o1) k c (AY (l.take k)):=by
     have:=aa.pre (hi:=k) gd;simpa [AY,List.map_take]using this
    have ab:=AB Z;clear Z;obtain⟨x,hx⟩:=ib (l.getD k default);rw[<-hx]at p0;have HX:=AB hx;clear hx;(go_wp2_with fail);refine(Tq wr x).mono ?_;rintro e w1 ⟨rfl,hb1⟩;cases hq:Aq x with
    | false=>
      have I:ga (((List.range l.length).all λi=>Aq (l.getD i default) && !((l.take i).any λy=>(l.getD i default).toList==y.toList))=false):=AB (FV V (by rw[<-HX.o,hq];rfl));clear hq;(go_wp2_with fail);go_ret;exact⟨by rw[T.o,I.o];rfl,AM G G.size hb1⟩
    | true=>
      have HQ:=AB hq;clear hq;(go_wp2_with fail);refine(NW w1 wr.heap.size k c _ (l.take k) (ab.o.below hb1) gt x).mono ?_;rintro e w2 ⟨rfl,rfl⟩;cases ha:(l.take k).any λy=>x.toList==y.toList with
      | true=>
        have I:ga (((List.range l.length).all λi=>Aq (l.getD i default) && !((l.take i).any λy=>(l.getD i default).toList==y.toList))=false):=AB (FV V (by rw[<-HX.o,ha,HQ.o];rfl));clear ha;(go_wp2_with fail);go_ret;exact⟨by rw[T.o,I.o];rfl,AM G G.size hb1⟩
      | false=>
        have HA:=AB ha;clear ha;(go_wp2_with fail);go_roundw;case rel=>
         refine⟨k+1,V,by go_num,AB (λj hj=>?_),AM G G.size hb1⟩;by_cases e:j=k
         .rw[e,<-HX.o];rw[HQ.o,HA.o];rfl
         exact hf.o j gd
        case measure=>exact Co k _ V
   obtain rfl:k=l.length:=gd;have I:ga (((List.range l.length).all λi=>Aq (l.getD i default) && !((l.take i).any λy=>(l.getD i default).toList==y.toList))=true):=AB (Gb hf.o);(go_wp2_with fail);go_ret;exact⟨by rw[T.o,I.o];rfl,G⟩
 have t1:=gG 8 l.length;have hs:BJ l=false:=by unfold BJ;rw[AG g8];rfl
 rw[hs];clear g8 hs;go_enter func166,ntmps166;go_wp2_with fail
 go_ret;exact⟨rfl,AC _ _⟩
theorem Ty (w sA sc ss nA nc ns cur)(hT:TabR w w.heap.size sA sc ss nA nc ns)(hmax:ns.length<=1000000)(hm:∀s∈ns,s.p.ms.length<=1000000):
 Calls prog 93 #[.agg (dP sA ss.length sc nA ns.length nc cur.toNat)] w (Ki w ns (Fv ns cur)):=by
 by_cases h0:cur.toNat=0
 .have t1:((cur.toNat:Int)==0)=true:=by rw[h0];rfl
  have HS:ga (Fv ns cur = -1):=AB (by unfold Fv;rw[AJ h0]);clear h0;go_enter func93,ntmps93;go_wp2_with fail
  (try simp only[Exit.inBlock,Exit.then]);have G:=hI w (.cells (dP sA ss.length sc nA ns.length nc cur.toNat) 39);have O:(w.alloc (.cells (dP sA ss.length sc nA ns.length nc cur.toNat) 39)).heap.size=w.heap.size+1:=gj;generalize w.alloc _=w1 at *;have x2:=AP w1 Aj 43;have I:=G.alloc G.size (.cells Aj 43);rw[<-O];refine AW (Dt (b:=w1.heap.size) rfl _ _ rfl x2) rfl ?_;rw[HS.o];exact⟨none,0,rfl,Av _ _ _ _,I⟩
 have t1:=gL cur.toNat 0;have HS:ga (Fv ns cur=sIx ns cur):=AB (by unfold Fv;rw[AE h0]);clear h0;go_enter func93,ntmps93;go_wp2_with fail
 have G:=hI w (.cells (dP sA ss.length sc nA ns.length nc cur.toNat) 39);have O:(w.alloc (.cells (dP sA ss.length sc nA ns.length nc cur.toNat) 39)).heap.size=w.heap.size+1:=gj;generalize w.alloc _=w1 at *;have x2:=AP w1 Aj 43;have I:=G.alloc G.size (.cells Aj 43);generalize w1.alloc _=w2 at *;rw[<-O];have Z:w.heap.size<=w1.heap.size:=gd;generalize w1.heap.size=b2 at *;have V:=hT.later I;clear hT O G;refine(JI w2 sA sc ss nA nc ns cur.toNat V hmax hm cur).mono ?_;rintro e w3 ⟨A3,c3,rfl,hown3,hb3⟩;obtain⟨i,hi⟩:=ib (sIx ns cur);rw[<-hi]at hown3 ⊢;have HI:=AB hi;have X3:=x2.keep hb3 x2.z;have:=X3.cell 0 _ rfl;have:=X3.free 0 gj;have:=X3.cell 1 _ rfl;have:=X3.free 1 gj;have:=X3.cell 2 _ rfl;have:=X3.free 2 gj;have:=X3.cell 3 _ rfl;have:=X3.free 3 gj;have:=X3.cell 4 _ rfl;have:=X3.free 4 gj;have:=X3.cell 5 _ rfl;have:=X3.free 5 gj;have:=X3.cell 6 _ rfl;have:=X3.free 6 gj;have aa:=AM I I.size hb3;have HX:=AB X3;clear hi X3 hb3 I V;obtain⟨db,T⟩:=ib (decide (0<=i));rw[<-T];have ab:=AB T;generalize hq:Cg ns i=q at *;have HQ:=AB hq;have HO:=AB hown3;have ad:b2<w2.heap.size:=x2.z;have ae:w.heap.size<=w2.heap.size:=gd;clear hq T hown3 x2;go_wp2_with fail
 (try simp only[Exit.inBlock,Exit.then]);refine AW (Dt (b:=b2) rfl _ _ rfl HX.o.set7) rfl ?_;rw[HS.o,<-HI.o];refine⟨A3,c3,?_,?_,Hc aa Z⟩
 .rw[HQ.o,ab.o];rfl
 rw[HQ.o];exact B4 (JG HO.o ad) ae
theorem U0 (w sA sc ss nA nc ns)(cur:Nat)(hT:TabR w w.heap.size sA sc ss nA nc ns)(hmax:ss.length<=1000000)(hm:∀s∈ss,s.fs.length<=1000000)(id):
 Calls prog 167 #[.agg #[.slice sA ss.length sc,.slice nA ns.length nc,il cur],im id.toNat] w (Tz w ss (cIx ss id)):=by
 go_enter func167,ntmps167;go_wp2_with fail
 obtain⟨x1,ab⟩:=gZ w #[.slice sA ss.length sc,.slice nA ns.length nc,il cur] 39;have ak:(w.alloc (.cells #[.slice sA ss.length sc,.slice nA ns.length nc,il cur] 39)).heap.size=w.heap.size+1:=gj;generalize w.alloc _=w1 at *;obtain⟨x2,ad⟩:=gZ w1 #[im id.toNat] 30;have am:(w1.alloc (.cells #[im id.toNat] 30)).heap.size=w1.heap.size+1:=gj;have ae:=x1.keep ad x1.z;have af:=AM ab ab.size ad;generalize w1.alloc _=w2 at *;obtain⟨x3,O⟩:=gZ w2 #[im 0,ir] 33;have aB:(w2.alloc (.cells #[im 0,ir] 33)).heap.size=w2.heap.size+1:=gj;have ag:=ae.keep O ae.z;have ah:=x2.keep O x2.z;have ai:=AM af af.size O;generalize w2.alloc _=w3 at *;have aj:=hT.later ai;rw[<-ak,<-am];have:w.heap.size<w1.heap.size:=gd;have:w1.heap.size<w2.heap.size:=gd;have:w2.heap.size<w3.heap.size:=gd;have ao:w.heap.size<=w2.heap.size:=gd;generalize aa:w.heap.size=b1 at *;generalize w1.heap.size=b2 at *;generalize w2.heap.size=b3 at *;have H1:=AB aa;clear ak am aB ab ad O x1 ae x2 af hT aa;refine(Ts w3 _ sc sA ss aj.srow hmax 205 _ _ Tu (Tw w3 b2 id ah.z (ah.cell 0 _ rfl))).mono ?_;rintro e w4 ⟨rfl,hb4⟩;obtain⟨i,hi⟩:=ib (cIx ss id);have T:=hi;unfold cIx at T;rw[<-T];have HI:=AB hi;have aC:=AB T;have X1:=ag.keep hb4 ag.z;have X3:=x3.keep hb4 x3.z;have V:=aj.later hb4;have ap:Below b1 w w4:=ai.trans (hb4.mono gd);have:=hb4.size;clear hi T ag ah x3 aj ai hb4;have t0:=X1.cell 0 _ rfl;have g0:=X3.cell 0 _ rfl;have k0:=X3.free 0 gj;have g1:=X3.cell 1 _ rfl;have k1:=X3.free 1 gj;by_cases h0:i<0
 .have hd:decide (i<0)=true:=AF h0;have HS:ga (He ss i=0/\FW ss i=[]/\decide (0<=i)=false):=AB ⟨by unfold He;rw[AE gd],by unfold FW;rw[AE gd],AG gd⟩;obtain⟨q0,q1⟩:=BZ w4 b3 _ _ (im 0) ir g0 g1;have HQ:=gR q0 q1;clear h0 X1 X3 V q0 q1;go_wp2_with fail
  (try simp only[Exit.inBlock,Exit.then]);refine AW (D9 (b:=b3) (x:=im 0) (y:=ir) rfl _ _ rfl HQ.o.1 HQ.o.2) rfl ?_;rw[<-HI.o];refine⟨none,0,?_,?_,?_⟩
  .rw[HS.o.1,HS.o.2.1,HS.o.2.2];rfl
  .rw[HS.o.2.1];exact Av _ _ _ _
  rw[H1.o];exact Cf ap b3 ao _ _
 have hd:decide (i<0)=false:=AG h0;obtain⟨hk,aq,_⟩:=Ka aC.o.symm gd;generalize i.toNat=k at hk aq;subst aq;obtain⟨b,off,rfl,hb,f0,f1⟩:=V.srow.sl hk;have ar:=V.s_at hk;have:=hm _ (B9 hk);have HS:ga (He ss (k:Int)=(ss.getD k default).id/\FW ss (k:Int)=(ss.getD k default).fs/\decide ((0:Int)<=(k:Int))=true):=AB ⟨by unfold He;rw[AJ gd,BM],by unfold FW;rw[AJ gd,BM],AF gd⟩;generalize ss.getD k default=f at *;have HX:=AB X3;clear X1 X3 V h0;go_wp2_with fail
 obtain⟨y5,G⟩:=gZ w4 #[im f.id.toNat,.slice f.A f.fs.length f.c] 33;have X5:=HX.o.keep G HX.o.z;have au:=(ar.below G).more G.size;have aD:Below b1 w (w4.alloc (.cells #[im f.id.toNat,.slice f.A f.fs.length f.c] 33)):=ap.trans (G.mono gd);have:b3<w4.heap.size:=HX.o.z;have:w4.heap.size<(w4.alloc (.cells #[im f.id.toNat,.slice f.A f.fs.length f.c] 33)).heap.size:=gj;generalize w4.alloc _=w5 at *;generalize w4.heap.size=b7 at *;clear t0 f0 f1 g0 g1 k0 k1 G ar;obtain⟨s0,s1⟩:=y5.c2;obtain⟨g0,g1⟩:=X5.c2;obtain⟨k0,k1⟩:=X5.f2;have av:b7≠b3:=gd;have aw:b3<w5.heap.size:=gd;have ax:b1<=w5.heap.size:=gd;have Z:=gR X5 y5;clear X5 y5;go_region_held3 (λw'=>w'.cell? (gX b7 0)=some (im f.id.toNat)/\w'.cell? (gX b7 1)=some (.slice f.A f.fs.length f.c)) (first|exact⟨ay,az⟩|exact⟨s0,s1⟩|exact⟨Nd av ay _ _,Nd av az _ _⟩|go_keep)
  (first|(go_at_call 84;refine(Ha w5.drew w5.heap.size f.fs.length f.c f.A (AZ f.fs) au.drew (Ee _) gd (AD _)).mono ?_;rintro e w6 ⟨v6,rfl,hown6,hb6⟩;have I:=BY hb6;have X6:=Z.o.1.keep I Z.o.1.z;have Y6:=Z.o.2.keep I Z.o.2.z;have ay:=Y6.cell 0 _ rfl;have az:=Y6.cell 1 _ rfl;have aE:=X6.cell 0 _ rfl;have aF:=X6.cell 1 _ rfl;have:=X6.free 0 gj;have:=X6.free 1 gj;have aG:=Rd.of_own hown6;obtain⟨A6,c6,rfl,_⟩:=aG))
 all_goals (try go_wp2_with fail)
 all_goals (try simp only[Exit.inBlock,Exit.then])
 all_goals
  obtain⟨q0,q1⟩:=BZ w6 b3 _ _ (im f.id.toNat) (.slice A6 f.fs.length c6) aE aF;refine AW (D9 (b:=b3) (x:=im f.id.toNat) (y:=.slice A6 f.fs.length c6) rfl _ _ rfl q0 q1) rfl ?_;rw[<-HI.o];refine⟨A6,c6,?_,?_,?_⟩
  .rw[HS.o.1,HS.o.2.1,HS.o.2.2];rfl
  .rw[HS.o.2.1,H1.o];exact B4 (B6 (B6 hown6 (a:=gX b3 0) aw _) (a:=gX b3 1) aw _) ax
  rw[H1.o];exact Cf (aD.trans (I.mono ax)) b3 ao _ _
theorem Kl (w sA sc ss nA nc ns cur)(hT:TabR w w.heap.size sA sc ss nA nc ns)(h1:ss.length<=1000000)(h2:∀s∈ss,s.fs.length<=1000000)(h3:ns.length<=1000000)(h4:∀s∈ns,s.p.ms.length<=1000000):
 Calls prog 88 #[.agg (dP sA ss.length sc nA ns.length nc cur)] w (UA w ss ns cur):=by
 go_enter func88,ntmps88;go_wp2_with fail
 obtain⟨x1,aq⟩:=gZ w (dP sA ss.length sc nA ns.length nc cur) 39;have az:(w.alloc (.cells (dP sA ss.length sc nA ns.length nc cur) 39)).heap.size=w.heap.size+1:=gj;generalize w.alloc _=w1 at *;obtain⟨x2,ar⟩:=gZ w1 Aa 39;have aB:(w1.alloc (.cells Aa 39)).heap.size=w1.heap.size+1:=gj;have au:=x1.keep ar x1.z;have av:=AM aq aq.size ar;generalize w1.alloc _=w2 at *;obtain⟨x3,ai⟩:=gZ w2 #[ir,ir,il cur] 39;have aO:=au.keep ai au.z;have aP:=x2.keep ai x2.z;have aC:=AM av av.size ai;generalize w2.alloc _=w3 at *;have aD:=hT.below aC;rw[<-az,<-aB];have aV:w.heap.size<w1.heap.size:=gd;have aW:w1.heap.size<w2.heap.size:=gd;have T:w2.heap.size<w3.heap.size:=x3.z;generalize ap:w.heap.size=b1 at *;generalize w1.heap.size=b2 at *;generalize w2.heap.size=b3 at *;have H1:=AB ap;clear az aB aq ar ai x1 au x2 av hT ap;have C0:CI w3 b3 cur none 0 [] none 0 [] w3:=⟨x3,dN.nil _ _,AC _ _,T⟩;obtain⟨c0,c1⟩:=aO.c2;have aX:b1<w3.heap.size:=gd;clear x3;go_loopw [14] (λiv wr=>∃(k:Nat) (oA:Option Addr) (oc:Nat) (sd:List Sl),iv = io k/\k<=ss.length/\sd.length=k/\ga (sd.map dK=(ss.take k).map dK)/\CI w3 b3 cur oA oc sd none 0 [] wr) (λiv _=>ss.length-(intOf iv).toNat);case atStart=>exact⟨0,none,0,[],rfl,AU _,rfl,AB rfl,C0⟩
 case round=>
  clear C0;obtain⟨k,oA,oc,sd,rfl,hk,aE,aj,CC⟩:=hrel;have aF:=AB aE;clear aE;by_cases ak:k<ss.length
  .have Z:=(aD.below (CC.below.mono (show b1<=b3 by omega))).more (show b1<=wr.heap.size by have:=CC.below.size;omega);obtain⟨b,off,rfl,hb,f0,f1⟩:=Z.srow.sl ak;have ae:=Z.s_at ak;have aG:=h2 _ (B9 ak);generalize hf:ss.getD k default=f at *;have HF:=AB hf;clear hf Z;(go_wp2_with fail);obtain⟨y,G⟩:=gZ wr (dR f.id f.A f.fs.length f.c) 33;have V:=(ae.below G).more G.size;have X5:=CC.bx.keep G CC.bx.z;have O5:=CC.own.keep G;have aa:Below b3 w3 _:=AM CC.below (by have:=CC.below.size;omega) G;generalize wr.alloc _=w5 at *;generalize wr.heap.size=b5 at *;have zy:=y.z;have zo:b3<w5.heap.size:=X5.z;obtain⟨u0,u1⟩:=y.c2;have o0:=X5.cell 0 _ rfl;have aw:w3.heap.size<=w5.heap.size:=aa.size;clear f0 f1 ae G y;refine II 9 BC gh gh ?_;simp only[Bv,Bw,EL,List.take_zero,List.drop_succ_cons,List.drop_zero];iterate 6 (refine zV ?_ rfl ?_ ?_;rotate_left 1;(·intro w' I C hC;have q0:=(I.cell (p:=gX b3 0) zo).trans o0;have q1:=(I.cell (p:=gX b5 0) zy).trans u0;have q2:=(I.cell (p:=gX b5 1) zy).trans u1;go_simp;(try go_bits);exact hC);simp only[AX,AI,AH])
   refine C5 (.has (J9 w3.heap.size (AZ f.fs))) (λ_ _ h=>by cases h) rfl rfl (NL _ _) (λw' I=>?_) ?_
   .go_simp;exact⟨AC _ _,(Ha w' w5.heap.size f.fs.length f.c f.A _ (V.keep λp hp=>I.cell hp) (Ee _) gd I.size).mono λe aQ h=>NM h (AS aw I.size)⟩
   simp only[AX,AI,AH];refine J5 24 _ (.has (Nf w3.heap.size f.id f.fs)) rfl gj (λ_ _ h=>by cases h) rfl rfl (λ_=>rfl) (U3 _ _ _) (λu w' I hu=>?_) ?_
   .obtain⟨n,e,ho⟩:=hu;obtain rfl:n=f.fs.length:=by rw[Iy]at e;omega
    obtain⟨A',c',rfl,_⟩:=Rd.of_own ho;go_simp;exact⟨AC _ _,A',c',rfl,ho⟩
   simp only[AX,AI,AH];refine J5 25 _ (.has (Kj w3.heap.size f.id f.fs)) rfl gj (λ_ _ h=>by cases h) rfl rfl (λ_=>rfl) (U4 _ _ _) (λu w' I hu=>?_) ?_
   .obtain⟨A',c',rfl,ho⟩:=hu;go_simp;exact⟨(AC _ _).alloc (AD _) _,U5 w' ho⟩
   simp only[AX,AI,AH];intro wA af;simp only[C6];rintro aR-v25-v26 ⟨A9,c9,L9,rfl,hlit,hoin⟩;have G:Below w5.heap.size w5 wA:=BY af;have XA:=X5.keep G X5.z;have OA:=O5.keep G;have ag:Below b3 w3 wA:=AM aa gd G;have ah:w3.heap.size<=wA.heap.size:=ag.size;have aH:sd.length<=1000000:=by have:=aF.o;omega
   have ax:=AB (Ni (x:=(⟨f.id,f.fs,A9,c9⟩:Sl)) aj.o ak (by rw[HF.o];rfl));clear aj af G aa u0 u1 o0 X5 O5 zy zo V;go_wp2_with (at_builtin;refine Aw _ Fu rfl (.tmp 19) (.tmp 26) rfl w3.heap.size _ _ _ rfl OA.sown wA.heap.size L9 1 1 _ rfl hlit (GZ _) gd ah ?_;intro v3 w8 O ab _;obtain⟨g,cap,rfl,O8⟩:=OA.snocS (s:=⟨f.id,f.fs,A9,c9⟩) hoin O ab;have ad:Below w3.heap.size wA w8:=Au (AC _ _) (AD _) OA.sown ab ah;have X8:=XA.keep ad T;have s8:=X8.cell 0 _ rfl;have f8:=X8.free 0 gj;have ay:Below b3 w3 w8:=ag.trans (ad.mono (Ad T));have HO:=gR O8 X8;clear O ab ad O8 X8)
   go_roundw;case rel=>
    refine⟨k+1,some ⟨g,0,none⟩,cap,sd++[⟨f.id,f.fs,A9,c9⟩],by go_num,gd,by rw[AR,aF.o];rfl,ax,?_,HO.o.1.set T _,ay.setCell (p:=gX b3 0) (AD _) _,T⟩;rw[AR];exact HO.o.2.set (j:=0) _ rfl
   case measure=>simp[intOf];omega
  have aS:ga (sd.map dK=ss.map dK):=AB (by have:=aj.o;rw[show k=ss.length by omega,E8]at this;exact this);have C1:=CC;have aT:=(CC.below.cell (p:=gX b1 1) (show b1<b3 by omega)).trans c1;clear aj CC c0 c1;go_wp2_with fail
  go_loopw [33] (λiv wr=>∃(m:Nat) (pA:Option Addr) (pc:Nat) (nd:List Nl),iv = io m/\m<=ns.length/\nd.length=m/\ga (nd.map dL=(ns.take m).map dL)/\CI w3 b3 cur oA oc sd pA pc nd wr) (λiv _=>ns.length-(intOf iv).toNat);case atStart=>exact⟨0,none,0,[],rfl,AU _,rfl,AB rfl,C1⟩
  case round=>
   clear C1 aT;obtain⟨m,pA,pc,nd,rfl,hm,aI,am,CC⟩:=hrel;have aJ:=AB aI;clear aI;by_cases ao:m<ns.length
   .have Z:=(aD.below (CC.below.mono (show b1<=b3 by omega))).more (show b1<=wr.heap.size by have:=CC.below.size;omega);obtain⟨b,off,rfl,hb,f0,f1,f2,f3,f4,f5,f6⟩:=Z.nrow.nl ao;have ae:=Z.n_at ao;have aG:=h4 _ (B9 ao);generalize hf:ns.getD m default=f at *;have HF:=AB hf;clear hf Z;(go_wp2_with fail);obtain⟨y,G⟩:=gZ wr (dO f.p f.A f.c) 43;have V:=(ae.below G).more G.size;have X5:=CC.bx.keep G CC.bx.z;have O5:=CC.own.keep G;have aa:Below b3 w3 _:=AM CC.below (by have:=CC.below.size;omega) G;generalize wr.alloc _=w5 at *;generalize wr.heap.size=b5 at *;have zy:=y.z;have zo:b3<w5.heap.size:=X5.z;obtain⟨u0,u1,u2,aK,aL,aM,aN⟩:=y.c7;have o1:=X5.cell 1 _ rfl;have aw:w3.heap.size<=w5.heap.size:=aa.size;clear f0 f1 f2 f3 f4 f5 f6 ae G y;refine II 5 BC gh gh ?_;simp only[Bv,Bw,EL,List.take_zero,List.drop_succ_cons,List.drop_zero];iterate 3 (refine zV ?_ rfl ?_ ?_;rotate_left 1;(·intro w' I C hC;have q:=(I.cell (p:=gX b3 1) zo).trans o1;have q0:=(I.cell (p:=gX b5 0) zy).trans u0;have q1:=(I.cell (p:=gX b5 1) zy).trans u1;have q2:=(I.cell (p:=gX b5 2) zy).trans u2;have q3:=(I.cell (p:=gX b5 3) zy).trans aK;have q4:=(I.cell (p:=gX b5 4) zy).trans aL;have q5:=(I.cell (p:=gX b5 5) zy).trans aM;have q6:=(I.cell (p:=gX b5 6) zy).trans aN;go_simp;(try go_bits);exact hC);simp only[AX,AI,AH])
    refine C5 (.has (SnO w3.heap.size f.p)) (λ_ _ h=>by cases h) rfl rfl (U6 _ _) (λw' I=>?_) ?_
    .go_simp;exact⟨AC _ _,(JH w' f.p f.A f.c ((V.keep λp hp=>I.cell hp).more I.size) aG).mono λe aQ h=>U7 h (AS aw I.size)⟩
    simp only[AX,AI,AH];refine J5 40 _ (.has (Kk w3.heap.size f.p)) rfl gj (λ_ _ h=>by cases h) rfl rfl (λ_=>rfl) (U8 _ _) (λu w' I hu=>?_) ?_
    .obtain⟨A',c',rfl,ho⟩:=hu;go_simp;exact⟨(AC _ _).alloc (AD _) _,U9 w' ho⟩
    simp only[AX,AI,AH];intro wA af;simp only[C6];rintro aR-v26 ⟨A9,c9,L9,rfl,hlit,hoin⟩;have G:Below w5.heap.size w5 wA:=BY af;have XA:=X5.keep G X5.z;have OA:=O5.keep G;have ag:Below b3 w3 wA:=AM aa gd G;have ah:w3.heap.size<=wA.heap.size:=ag.size;have aH:nd.length<=1000000:=by have:=aJ.o;omega
    have ax:=AB (Ni (x:=(⟨f.p,A9,c9⟩:Nl)) am.o ao (by rw[HF.o];rfl));clear am af G aa u0 u1 u2 aK aL aM aN o1 X5 O5 zy zo V;go_wp2_with (at_builtin;refine Aw _ Ds rfl (.tmp 38) (.tmp 41) rfl w3.heap.size _ _ _ rfl OA.nown wA.heap.size L9 1 1 _ rfl hlit (FU _) gd ah ?_;intro v3 w8 O ab _;obtain⟨g,cap,rfl,O8⟩:=OA.snocN (s:=⟨f.p,A9,c9⟩) hoin O ab;have ad:Below w3.heap.size wA w8:=Au (AC _ _) (AD _) OA.nown ab ah;have X8:=XA.keep ad T;have s8:=X8.cell 1 _ rfl;have f8:=X8.free 1 gj;have ay:Below b3 w3 w8:=ag.trans (ad.mono (Ad T));have HO:=gR O8 X8;clear O ab ad O8 X8)
    go_roundw;case rel=>
     refine⟨m+1,some ⟨g,0,none⟩,cap,nd++[⟨f.p,A9,c9⟩],by go_num,gd,by rw[AR,aJ.o];rfl,ax,?_,HO.o.1.set T _,ay.setCell (p:=gX b3 1) (AD _) _,T⟩;rw[AR];exact HO.o.2.set (j:=1) _ rfl
    case measure=>simp[intOf];omega
   have aU:ga (nd.map dL=ns.map dL):=AB (by have:=am.o;rw[show m=ns.length by omega,E8]at this;exact this);obtain⟨g0,g1,g2⟩:=CC.bx.c3;have Y2:=aP.keep CC.below (show b2<b3 by omega);obtain⟨k0,k1,k2⟩:=Y2.c3;obtain⟨e0,e1,e2⟩:=Y2.f3;have n32:b3≠b2:=gd;have aY:b2≠b3:=gd;have HC:=gR CC Y2;clear am CC Y2;(go_wp2_with fail);(try simp only[Exit.inBlock,Exit.then]);refine AW (Nh (b:=b2) rfl _ _ rfl HC.o.2.set3b) rfl ?_;refine⟨oA,oc,sd,pA,pc,nd,rfl,?_,aS.o,aU.o,?_⟩
   .exact(HC.o.1.own.set3b gd).base (by rw[H1.o];omega)
   rw[H1.o];exact BV (aC.trans (HC.o.1.below.mono gd)) gd
