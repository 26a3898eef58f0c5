/- For CatalogEntries. -/
import Derived.Test.YtpfofefecamkfaaGreatDoorZ5
namespace Go.Proofs.YtpfofefecamkfaaGreatDoor
open Go.RowKit Proofs.Tryz
set_option maxRecDepth 100000
set_option maxHeartbeats 16000000
set_option linter.all false
theorem KC (w s)(hs:s.size<=9223372036854775807):Calls prog 182 #[.string s] w λe w'=>e = .returned (.bool (Aq s))/\w=w':=by
 go_enter func182,ntmps182;go_wp2;go_loop [3] (λiv=>∃k:Nat,k<=30/\iv = io k/\ga (∀j,j<k->okP (s.get! j).toNat=true)) (λiv=>30-(intOf iv).toNat);case atStart=>exact⟨0,AU _,rfl,AB (λj h=>gd)⟩
 case round=>
  obtain⟨k,hk,rfl,hf⟩:=hrel;by_cases G:k<s.size/\k<30
  .obtain⟨h1,h2⟩:=G;have HB:ga (okP (s.get! k).toNat=false->Aq s=false):=AB (λh=>ZX h1 h);obtain⟨x,hx⟩:=ib ((s.get! k).toNat);have:x<256:=by rw[hx];exact(s.get! k).toNat_lt
   have:(s[k]'h1).toNat=x:=by rw[hx,ZW]
   have HX:=AB hx;clear hx;rcases(show(x<45)\/(x=45)\/(x=46)\/(x=47)\/(48<=x/\x<=57)\/(58<=x/\x<=96)\/(97<=x/\x<=122)\/(123<=x)by omega)with g|g|g|g|g|g|g|g
   .have a1:=gJ 97 x;have a2:=gI x 122;have a3:=gJ 48 x;have a4:=gI x 57;have a5:=gL x 47;have a6:=gL x 45;have HO:ga (okP (s.get! k).toNat=false):=AB (by rw[<-HX.o];unfold okP;exact AG gd);have HG:=AB g;clear g;go_wp2;go_ret;exact⟨by rw[HB.o HO.o];rfl,rfl⟩
   .have a1:=gJ 97 x;have a2:=gI x 122;have a3:=gJ 48 x;have a4:=gI x 57;have a5:=gL x 47;have a6:=gK x 45;have HO:ga (okP (s.get! k).toNat=true):=AB (by rw[<-HX.o];unfold okP;exact AF gd);have HG:=AB g;clear g;go_wp2;go_round;case rel=>
     refine⟨k+1,gd,by go_num,AB (λj hj=>?_)⟩;by_cases e:j=k
     .rw[e];exact HO.o
     exact hf.o j gd
    case measure=>simp[intOf];omega
   .have a1:=gJ 97 x;have a2:=gI x 122;have a3:=gJ 48 x;have a4:=gI x 57;have a5:=gL x 47;have a6:=gL x 45;have HO:ga (okP (s.get! k).toNat=false):=AB (by rw[<-HX.o];unfold okP;exact AG gd);have HG:=AB g;clear g;go_wp2;go_ret;exact⟨by rw[HB.o HO.o];rfl,rfl⟩
   .have a1:=gJ 97 x;have a2:=gI x 122;have a3:=gJ 48 x;have a4:=gI x 57;have a5:=gK x 47;have a6:=gL x 45;have HO:ga (okP (s.get! k).toNat=true):=AB (by rw[<-HX.o];unfold okP;exact AF gd);have HG:=AB g;clear g;go_wp2;go_round;case rel=>
     refine⟨k+1,gd,by go_num,AB (λj hj=>?_)⟩;by_cases e:j=k
     .rw[e];exact HO.o
     exact hf.o j gd
    case measure=>simp[intOf];omega
   .have a1:=gJ 97 x;have a2:=gI x 122;have a3:=gI 48 x;have a4:=gI x 57;have a5:=gL x 47;have a6:=gL x 45;have HO:ga (okP (s.get! k).toNat=true):=AB (by rw[<-HX.o];unfold okP;exact AF gd);have HG:=AB g;clear g;go_wp2;go_round;case rel=>
     refine⟨k+1,gd,by go_num,AB (λj hj=>?_)⟩;by_cases e:j=k
     .rw[e];exact HO.o
     exact hf.o j gd
    case measure=>simp[intOf];omega
   .have a1:=gJ 97 x;have a2:=gI x 122;have a3:=gI 48 x;have a4:=gJ x 57;have a5:=gL x 47;have a6:=gL x 45;have HO:ga (okP (s.get! k).toNat=false):=AB (by rw[<-HX.o];unfold okP;exact AG gd);have HG:=AB g;clear g;go_wp2;go_ret;exact⟨by rw[HB.o HO.o];rfl,rfl⟩
   .have a1:=gI 97 x;have a2:=gI x 122;have a3:=gI 48 x;have a4:=gJ x 57;have a5:=gL x 47;have a6:=gL x 45;have HO:ga (okP (s.get! k).toNat=true):=AB (by rw[<-HX.o];unfold okP;exact AF gd);have HG:=AB g;clear g;go_wp2;go_round;case rel=>
     refine⟨k+1,gd,by go_num,AB (λj hj=>?_)⟩;by_cases e:j=k
     .rw[e];exact HO.o
     exact hf.o j gd
    case measure=>simp[intOf];omega
   have a1:=gI 97 x;have a2:=gJ x 122;have a3:=gI 48 x;have a4:=gJ x 57;have a5:=gL x 47;have a6:=gL x 45;have HO:ga (okP (s.get! k).toNat=false):=AB (by rw[<-HX.o];unfold okP;exact AG gd);have HG:=AB g;clear g;go_wp2;go_ret;exact⟨by rw[HB.o HO.o];rfl,rfl⟩
  have HI:=AB (ZY (s:=s) (k:=k) gd hf.o);rcases Nat.lt_or_ge k s.size with h1|h1
  .have h2:¬k<30:=gd;clear G;rcases Nat.lt_or_ge 24 s.size with h3|h3
   .have t1:=gI 1 s.size;have t2:=gJ s.size 24;have HR:ga (Aq s=false):=AB (Ga h3);clear h3;go_wp2;go_ret;exact⟨by rw[HR.o];rfl,rfl⟩
   exact absurd h1 gd
  have h2:¬k<s.size:=gd;clear G h1;by_cases h4:1<=s.size
  .have t1:=gI 1 s.size;by_cases h3:s.size<=24
   .have t2:=gI s.size 24;have HR:ga (Aq s=true):=AB (by rw[HI.o,AF h4,AF h3];rfl);clear h3 h4;go_wp2;go_ret;exact⟨by rw[HR.o];rfl,rfl⟩
   have t2:=gJ s.size 24;have HR:ga (Aq s=false):=AB (by rw[HI.o,AG h3,Bool.and_false]);clear h3 h4;go_wp2;go_ret;exact⟨by rw[HR.o];rfl,rfl⟩
  have t1:=gJ 1 s.size;have HR:ga (Aq s=false):=AB (by rw[HI.o,AG h4];rfl);clear h4;go_wp2;go_ret;exact⟨by rw[HR.o];rfl,rfl⟩
theorem Zi (w id n c A l)(hr:Rd w w.heap.size 4 A n c (AZ l))(hsz:Kw l):
 Calls prog 135 #[.agg (dR id A n c)] w (EA w (DK id l)):=by
 obtain rfl:=hr.lenF;obtain⟨bC,aZ⟩:=hsz;have bq:id.toNat<4294967296:=id.toNat_lt;go_enter func135,ntmps135;go_wp2_with fail
 have x1:=Dc w (dR id A l.length c) 33;obtain⟨wx,a0⟩:=ib (w.alloc (.cells (dR id A l.length c) 33));rw[<-a0]at x1 ⊢;obtain⟨s0,s1⟩:=x1.c2;have zx:w.heap.size<wx.heap.size:=by have:=x1.size;omega
 have a1:=hr.below x1.below;have bg:=x1.below;obtain⟨bx,aM⟩:=ib w.heap.size;rw[<-aM]at s0 s1 zx a1 ⊢;have a2:=AB aM;clear a0 x1 hr aM;have bD:=Var.put_le10 (n:=id.toNat) gd;have bE:=Var.put_le10 (n:=l.length) gd;refine(FN (id.toNat:Int) wx gd gd).mono ?_;rintro e w1 ⟨v1,rfl,ho1,ad⟩;rw[BM]at ho1;have bh:=(ad.cell (p:=gX bx 1) zx).trans s1;go_wp2_with fail
 refine(FN (l.length:Int) w1 gd gd).mono ?_;rintro e wA ⟨v2,rfl,ho2,ae⟩;rw[BM]at ho2;obtain⟨Al,cl,rfl,hl⟩:=Rd.of_own ho2;have aE:Below wx.heap.size wx wA:=AM ad ad.size ae;have ho:=Ag ho1 ae;clear ho1 ho2 ad ae bh;go_wp2_with (at_builtin;refine Aw _ As rfl (.tmp 10) (.tmp 15) rfl wx.heap.size _ _ _ rfl ho wA.heap.size Al _ cl _ rfl hl (Bb _) gd aE.size ?_;intro v2 wB V hg _;have a3:=Au aE (AD _) ho hg aE.size;clear hg)
 have aw:wB.ownsRow wx.heap.size 5 1 v2 (Var.put id.toNat++(Var.put l.length++By (l.take 0))).length (AO (Var.put id.toNat++(Var.put l.length++By (l.take 0)))):=by
  simp only[List.take_zero,By,List.flatMap_nil,List.append_nil];rw[AR,CH];exact V
 clear V ho hl aE;go_loopw [3,4] (PR wx id l) (λ_ iv _=>l.length-(intOf iv).toNat);case atStart=>exact⟨0,_,_,rfl,rfl,AU _,aw,AB rfl,by simp[By];omega,a3⟩
 case round=>
  clear aw a3;obtain⟨k,cur,vb,rfl,rfl,hk,V,ax,bu,au⟩:=hrel;have bi:=(au.cell (p:=gX bx 1) zx).trans s1;by_cases ai:k<l.length
  .obtain⟨b0,off,rfl,bF,f0,f1,f2,f3⟩:=(a1.below' au (Ad zx)).fd ai;have aN:=aZ k ai;obtain⟨f,hf⟩:=ib (l.getD k default);rw[<-hf]at f0 f1 f2 f3 aN;have HF:=AB hf;have HN:=AB aN;have bv:=f.id.toNat_lt;have bw:=f.kind.toNat_lt;have q1:=Var.put_le10 (n:=f.id.toNat) gd;have q2:=Var.put_le10 (n:=f.name.size) gd;have q3:=Var.put_le10 (n:=f.kind.toNat) gd;have q4:f.name.data.toList.length=f.name.size:=gj;have m1:(f.name.size:Int) % 18446744073709551616=(f.name.size:Int):=gd;have HQ:=gT q1 q2 q3 q4;clear hf q1 q2 q3 q4 aN;(go_wp2_with fail);have hT:=heap_alloc_new wr (.cells (fDV f) 89);have ay:=V.alloc (.cells (fDV f) 89);have ad:=au.alloc au.size (.cells (fDV f) 89);generalize wr.alloc _=w1 at *;generalize wr.heap.size=bf at *;clear f0 f1 f2 f3 V au bi;have bj:=cell_of_row w1 bf 0 _ _ _ hT;simp at bj;(go_wp2_with fail);refine(FN (f.id.toNat:Int) w1 gd gd).mono ?_;rintro e w2 ⟨vp,rfl,hop,hbp⟩;rw[BM]at hop;obtain⟨pA,pc,rfl,av⟩:=Rd.of_own hop;have bk:=Hi hT hbp;have aj:=Ag ay hbp;have ae:=AM ad ad.size hbp;have bG:=ae.size;clear hop hbp ay ad hT;obtain⟨ti,bl,a4,a5,a6⟩:=DZ As.inf;go_wp2_with (at_builtin;refine Aw _ As rfl (.tmp 29) (.tmp 33) rfl wx.heap.size _ _ _ rfl aj w2.heap.size pA _ pc _ rfl av (Bb _) (by have:=HQ.o.1;omega) ae.size ?_;intro v3 w3 ho hg _;have aO:=Au ae (AD _) aj hg ae.size;have aP:=FC bk aj hg gm;obtain⟨c1,aF⟩:∃c,c=cur++Var.put f.id.toNat:=⟨_,rfl⟩;have az:w3.ownsRow wx.heap.size 5 1 v3 c1.length (AO c1):=(by rw[aF,AR,CH];exact ho);have aJ:c1.length=cur.length+(Var.put f.id.toNat).length:=(by rw[aF,AR]);have a7:=AB aF;have I:=AB aJ;have bm:=cell_of_row w3 bf 1 _ _ _ aP;simp at bm;clear ho hg aF aJ)
   refine(FN (f.name.size:Int) w3 gd (by have:=HN.o;omega)).mono ?_;rintro e w4 ⟨vp,rfl,hop,hbp⟩;rw[BM]at hop;obtain⟨pA,pc,rfl,av⟩:=Rd.of_own hop;have bn:=Hi aP hbp;have ak:=Ag az hbp;have aG:=AM aO aO.size hbp;have bH:=aG.size;clear hop hbp az aO aP;go_wp2_with (first|(at_builtin;refine Aw _ As rfl (.tmp 35) (.tmp 40) rfl wx.heap.size _ _ _ rfl ak w4.heap.size pA _ pc _ rfl av (Bb _) (by have:=HQ.o;have:=HN.o;have:=I.o;omega) aG.size ?_;intro v5 w5 ho hg _;have aQ:=Au aG (AD _) ak hg aG.size;have a8:=FC bn ak hg gm;obtain⟨c2,aH⟩:∃c,c=c1++Var.put f.name.size:=⟨_,rfl⟩;have am:w5.ownsRow wx.heap.size 5 1 v5 c2.length (AO c2):=(by rw[aH,AR,CH];exact ho);have aK:c2.length=c1.length+(Var.put f.name.size).length:=(by rw[aH,AR]);have a9:=AB aH;have T:=AB aK;have bo:=cell_of_row w5 bf 1 _ _ _ a8;simp at bo;clear ho hg aH aK)|(at_builtin;refine Go.Lib.wpList_append_own_string _ rfl (.tmp 42) (.tmp 44) 55 9 rfl wx.heap.size 5 ti underlying55 underlying9 bl a4 a5 a6 _ _ _ rfl am f.name rfl (by have:=T.o;have:=HQ.o;have:=HN.o;have:=I.o;unfold maxLen;omega) (by have:=T.o;have:=HQ.o;have:=HN.o;have:=I.o;omega) aQ.size ?_;intro v6 w6 ho hg _;have aR:=Au aQ (AD _) am hg aQ.size;have aS:=FC a8 am hg gm;obtain⟨c3,aI⟩:∃c,c=c2++f.name.data.toList:=⟨_,rfl⟩;have aB:w6.ownsRow wx.heap.size 5 1 v6 c3.length (AO c3):=(by rw[aI,AR,CH];exact ho);have aL:c3.length=c2.length+f.name.size:=(by rw[aI,AR,HQ.o.2.2.2]);have ba:=AB aI;have Z:=AB aL;have bp:=cell_of_row w6 bf 2 _ _ _ aS;simp at bp;clear ho hg aI aL))
   refine(FN (f.kind.toNat:Int) w6 gd gd).mono ?_;rintro e w7 ⟨vp,rfl,hop,hbp⟩;rw[BM]at hop;obtain⟨pA,pc,rfl,av⟩:=Rd.of_own hop;have aT:=Hi aS hbp;have O:=Ag aB hbp;have ao:=AM aR aR.size hbp;have bI:=ao.size;clear hop hbp aB aR aS;obtain⟨nd,aU⟩:=ib f.need;unfold fDV at aT;rw[<-aU]at aT;have be:=AB aU;clear aU;cases nd with
   | true=>
     go_wp2_with (first|(at_builtin;refine Aw _ As rfl (.tmp 46) (.tmp 50) rfl wx.heap.size _ _ _ rfl O w7.heap.size pA _ pc _ rfl av (Bb _) (by have:=HQ.o;have:=HN.o;have:=I.o;have:=T.o;have:=Z.o;omega) ao.size ?_;intro v8 w8 ho hg _;have aa:=Au ao (AD _) O hg ao.size;have aV:=FC aT O hg gm;obtain⟨c4,ab⟩:∃c,c=c3++Var.put f.kind.toNat:=⟨_,rfl⟩;have ap:w8.ownsRow wx.heap.size 5 1 v8 c4.length (AO c4):=(by rw[ab,AR,CH];exact ho);have af:c4.length=c3.length+(Var.put f.kind.toNat).length:=(by rw[ab,AR]);have aW:=AB ab;have ag:=AB af;have aX:=cell_of_row w8 bf 3 _ _ _ aV;simp at aX;clear ho hg ab af)|(at_builtin;have G:=ap.alloc (.cells #[ip 1] 5);have ah:Rd (w8.alloc (.cells #[ip 1] 5)) (w8.heap.size+1) 1 (gY w8.heap.size 0) 1 1 (AO [if true then 1 else 0]):=Rd.lit w8 5 #[ip 1] (n:=1) (sz:=1) rfl gm;refine Aw _ As rfl (.tmp 54) (.tmp 55) rfl wx.heap.size _ _ _ rfl G (w8.heap.size+1) _ 1 1 _ rfl ah (Bb _) (by have:=HQ.o;have:=HN.o;have:=I.o;have:=T.o;have:=Z.o;have:=ag.o;omega) (by simp;have:=aa.size;omega) ?_;intro v9 w9 ho hg _;have aC:=aa.alloc aa.size (.cells #[ip 1] 5);have aY:=Au aC (AD _) G hg (by simp;have:=aa.size;omega);obtain⟨c5,aq⟩:∃c,c=c4++[if true then 1 else 0]:=⟨_,rfl⟩;have ar:w9.ownsRow wx.heap.size 5 1 v9 c5.length (AO c5):=(by rw[aq,AR,CH];exact ho);have aD:=AB aq;clear ho hg aq ah G aC))
     go_roundw;case rel=>
      refine⟨k+1,c5,v9,rfl,by go_num,gd,ar,AB (JP ai ax.o HF.o a7.o a9.o ba.o aW.o (by rw[<-be.o];exact aD.o)),?_,aY⟩;have:=I.o;have:=T.o;have:=Z.o;have:=ag.o;have:=HQ.o;have:=HN.o;rw[aD.o,AR];simp only[Bg,List.length_nil];omega
     case measure=>exact Co k _ ai
   | false=>
     go_wp2_with (first|(at_builtin;refine Aw _ As rfl (.tmp 46) (.tmp 50) rfl wx.heap.size _ _ _ rfl O w7.heap.size pA _ pc _ rfl av (Bb _) (by have:=HQ.o;have:=HN.o;have:=I.o;have:=T.o;have:=Z.o;omega) ao.size ?_;intro v8 w8 ho hg _;have aa:=Au ao (AD _) O hg ao.size;have aV:=FC aT O hg gm;obtain⟨c4,ab⟩:∃c,c=c3++Var.put f.kind.toNat:=⟨_,rfl⟩;have ap:w8.ownsRow wx.heap.size 5 1 v8 c4.length (AO c4):=(by rw[ab,AR,CH];exact ho);have af:c4.length=c3.length+(Var.put f.kind.toNat).length:=(by rw[ab,AR]);have aW:=AB ab;have ag:=AB af;have aX:=cell_of_row w8 bf 3 _ _ _ aV;simp at aX;clear ho hg ab af)|(at_builtin;have G:=ap.alloc (.cells #[ip 0] 5);have ah:Rd (w8.alloc (.cells #[ip 0] 5)) (w8.heap.size+1) 1 (gY w8.heap.size 0) 1 1 (AO [if false then 1 else 0]):=Rd.lit w8 5 #[ip 0] (n:=1) (sz:=1) rfl gm;refine Aw _ As rfl (.tmp 57) (.tmp 58) rfl wx.heap.size _ _ _ rfl G (w8.heap.size+1) _ 1 1 _ rfl ah (Bb _) (by have:=HQ.o;have:=HN.o;have:=I.o;have:=T.o;have:=Z.o;have:=ag.o;omega) (by simp;have:=aa.size;omega) ?_;intro v9 w9 ho hg _;have aC:=aa.alloc aa.size (.cells #[ip 0] 5);have aY:=Au aC (AD _) G hg (by simp;have:=aa.size;omega);obtain⟨c5,aq⟩:∃c,c=c4++[if false then 1 else 0]:=⟨_,rfl⟩;have ar:w9.ownsRow wx.heap.size 5 1 v9 c5.length (AO c5):=(by rw[aq,AR,CH];exact ho);have aD:=AB aq;clear ho hg aq ah G aC))
     go_roundw;case rel=>
      refine⟨k+1,c5,v9,rfl,by go_num,gd,ar,AB (JP ai ax.o HF.o a7.o a9.o ba.o aW.o (by rw[<-be.o];exact aD.o)),?_,aY⟩;have:=I.o;have:=T.o;have:=Z.o;have:=ag.o;have:=HQ.o;have:=HN.o;rw[aD.o,AR];simp only[Bg,List.length_nil];omega
     case measure=>exact Co k _ ai
  have bB:¬k<l.length:=ai;go_wp2_with fail
  go_ret;refine⟨_,rfl,?_,bg.trans (au.mono (Ad (by have:=zx;rw[a2.o]at this;exact this)))⟩;have hc:=ax.o;rw[show k=l.length by omega,E8]at hc;have e1:DK id l=cur:=by rw[hc];rfl
  rw[e1];exact B4 V (Ad (by have:=zx;rw[a2.o]at this;exact this))
theorem Zk (w)(c0:Crc.W)(B n c A l)(hr:Rd w B 1 A n c (AO l)):
 Calls prog 184 #[im c0.toNat,.slice A n c] w λe w'=>e = .returned (im ((Crc.more c0 l).toNat:Int))/\w=w':=by
 obtain rfl:n=l.length:=by have:=hr.len;rw[Bt]at this;omega
 have am:l.length<=9223372036854775807:=by have h1:=hr.le;have h2:=hr.cap;unfold maxLen at h2;omega
 have ab:bits BinOp.xor .u32 (c0.toNat:Int) 4294967295=((~~~ c0).toNat:Int):=by
  have h:=Hj c0 (BitVec.allOnes 32);rw[BitVec.xor_allOnes]at h;exact h
 obtain⟨N0,O⟩:∃N:Nat,N=(~~~ c0).toNat:=⟨_,rfl⟩;rw[<-O]at ab;have ag:=AB O;clear O;go_enter func184,ntmps184;go_wp2;clear ab;go_loop [0,5] (λcv iv=>∃(k C:Nat),k<=l.length/\iv = io k/\cv = im C/\ga (C=(Crc.raw (~~~ c0) (l.take k)).toNat)) (λ_ iv=>l.length-(intOf iv).toNat);case atStart=>exact⟨0,N0,AU _,rfl,rfl,AB ag.o⟩
 case round=>
  obtain⟨k,C,hk,rfl,rfl,hC⟩:=hrel;by_cases ad:k<l.length
  .obtain⟨b,off,rfl,_,hc⟩:=hr.cellAt (k:=k) (by rw[Bt];exact ad);obtain⟨x,hx⟩:∃x:UInt8,x=l[k]:=⟨_,rfl⟩;have ao:w.cell? (gX b (off+k))=some (ip x.toNat):=by rw[hc,hx];simp[AO,DG]
   have ae:Crc.raw (~~~ c0) (l.take (k+1))=Crc.byteS (Crc.raw (~~~ c0) (l.take k)) x:=by
    rw[List.take_succ_eq_append_getElem ad,Crc.raw_append,<-hx];rfl
   have e1:=OH (Crc.raw (~~~ c0) (l.take k)) x;obtain⟨S,hS⟩:∃S:Crc.W,S=Crc.raw (~~~ c0) (l.take k) ^^^ BitVec.ofNat 32 x.toNat:=⟨_,rfl⟩;rw[<-hC.o,<-hS]at e1;have I:Crc.raw (~~~ c0) (l.take (k+1))=Crc.bits 8 S:=by rw[ae,hS];rfl
   have ah:=AB I;obtain⟨C1,T⟩:∃C1:Nat,C1=S.toNat:=⟨_,rfl⟩;rw[<-T]at e1;have ai:=AB T;have aj:=x.toNat_lt;clear hc hx ae hS I T;go_wp2;clear e1;go_loop [0,6] (λcv jv=>∃(j C2:Nat),j<=8/\jv = io j/\cv = im C2/\ga (C2=(Crc.bits j S).toNat)) (λ_ jv=>8-(intOf jv).toNat);case atStart=>exact⟨0,C1,gd,rfl,rfl,AB ai.o⟩
   case round=>
    obtain⟨j,C2,hj,rfl,rfl,af⟩:=hrel;by_cases ap:j<8
    .have V:Crc.bits (j+1) S=Crc.bit (Crc.bits j S):=Crc.bits_add j 1 S;obtain⟨L,S2,g1,g2,g3,g4,g5,g6⟩:=Zj (Crc.bits j S);rw[<-V]at g5 g6;rw[<-af.o]at g3 g4;rcases(show L=0\/L=1 by omega)with h0|h0
     .have g7:=AB (g6 h0);have t1:((L:Int)==1)=false:=by rw[h0];rfl
      clear g5 g6 V h0;go_wp2;go_round;case rel=>exact⟨j+1,S2,gd,by go_num,rfl,g7⟩
      case measure=>simp[intOf];omega
     have g7:=g5 h0;obtain⟨C4,Z⟩:∃C4:Nat,C4=(Crc.bits (j+1) S).toNat:=⟨_,rfl⟩;rw[<-Z]at g7;have ak:=AB Z;have t1:((L:Int)==1)=true:=by rw[h0];rfl
     clear g5 g6 V h0 Z;go_wp2;go_round;case rel=>exact⟨j+1,C4,gd,by go_num,rfl,ak⟩
     case measure=>simp[intOf];omega
    obtain rfl:j=8:=gd;go_wp2;go_round;case rel=>exact⟨k+1,C2,gd,by go_num,rfl,AB (by rw[ah.o];exact af.o)⟩
    case measure=>simp[intOf];omega
  obtain rfl:k=l.length:=gd;have G:bits BinOp.xor .u32 ((Crc.raw (~~~ c0) l).toNat:Int) 4294967295=((~~~ (Crc.raw (~~~ c0) l)).toNat:Int):=by
   have h:=Hj (Crc.raw (~~~ c0) l) (BitVec.allOnes 32);rw[BitVec.xor_allOnes]at h;exact h
  have aa:=hC.o;rw[E8]at aa;rw[<-aa]at G;have HF:=AB G;clear G aa;go_wp2;go_ret;refine⟨?_,rfl⟩;show Ending.returned (im (bits BinOp.xor .u32 (C:Int) 4294967295))=_;rw[HF.o];rfl
theorem Rn (w B n c A l)(hr:Rd w B 1 A n c (AO l))(hB:B<=w.heap.size)(hl:l.length<=1000000):
 Calls prog 138 #[.slice A n c] w (EA w (DL l)):=by
 obtain rfl:n=l.length:=by have:=hr.len;rw[Bt]at this;omega
 have hr:=hr.more hB;clear hB;go_enter func138,ntmps138;go_wp2_with (at_builtin;refine Aw _ As rfl _ _ rfl w.heap.size _ 0 [] rfl (Av _ _ _ _) w.heap.size A _ c _ rfl hr (Bb _) gd (AD _) ?_;intro v2 w2 I Z _;simp only[BL,CN]at I;have V:=Au (AC w.heap.size w) (AD _) (Av w w.heap.size 5 1) Z (AD _))
 go_wp2_with fail
 refine(Zk w2 0 _ _ _ A l ((hr.below V).more V.size)).mono ?_;rintro e w3 ⟨rfl,rfl⟩;obtain⟨C,hC⟩:∃C:Nat,C=(Crc.more 0 l).toNat:=⟨_,rfl⟩;have hq:C<4294967296:=by rw[hC];exact Fz _
 rw[<-hC];have HC:=AB hC;have HQ:=AB hq;clear hC Z hq;go_wp2_with fail
 go_loopw [3,4,5] (λbv sv iv wr=>∃k:Nat,k<=4/\iv = io k/\sv = im ((C/256^k:Nat):Int)/\wr.ownsRow w.heap.size 5 1 bv (l++leN C k).length (AO (l++leN C k))/\Below w.heap.size w wr) (λ_ _ iv _=>4-(intOf iv).toNat);case atStart=>exact⟨0,AU _,rfl,gj,by simpa [leN]using I,V⟩
 case round=>
  obtain⟨k,hk,rfl,rfl,G,O⟩:=hrel;by_cases ag:k<4
  .obtain⟨D,hD⟩:∃D:Nat,D=C/256^k:=⟨_,rfl⟩;have aa:C/256^(k+1)=D/256:=by rw[Nat.pow_succ,<-Nat.div_div_eq_div_mul,<-hD]
   have ah:D<4294967296:=by rw[hD];exact Nat.lt_of_le_of_lt (Nat.div_le_self _ _) HQ.o
   have ab:=AB (show l++leN C (k+1)=(l++leN C k)++[UInt8.ofNat D] by rw[leN,<-hD,Az]);obtain⟨L,hL⟩:=ib (l++leN C k);have ad:L.length=l.length+k:=by rw[hL,AR,Rm]
   rw[<-hL]at ab G;rw[<-hD];have HD:=AB aa;clear hD aa hL;go_wp2_with (at_builtin;refine Aw _ As rfl _ _ rfl w.heap.size _ _ _ rfl (G.alloc _) (wr.heap.size+1) _ 1 1 _ rfl (Rd.lit wr 5 _ rfl gm) ?h1 ?h2 ?h3 ?_)
   case h1=>rfl
   case h2=>omega
   case h3=>have:=O.size;simp;omega
   intro v3 w3 T ae _;have af:=Au (O.alloc O.size _) (AD _) (G.alloc _) ae (by have:=O.size;simp;omega);have e1:AO L++#[Value.int .u8 ((D:Int) % 256)].toList=AO (L++[UInt8.ofNat D]):=by
    rw[CH];congr 1
   rw[e1]at T;clear ae G e1;(go_wp2_with fail);go_roundw;case rel=>exact⟨k+1,gd,by go_num,by rw[HD.o];go_num,by rw[ab.o,AR,ad];exact T,af⟩
   case measure=>simp[intOf];omega
  obtain rfl:k=4:=gd;go_wp2_with fail
  go_ret;have e2:l++leN C 4=DL l:=by rw[HC.o,Zl];rfl
  rw[e2]at G;exact⟨_,rfl,G,O⟩
