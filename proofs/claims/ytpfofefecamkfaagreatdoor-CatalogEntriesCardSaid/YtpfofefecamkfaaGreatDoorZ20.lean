/- For CatalogEntries. -/
import Derived.Test.YtpfofefecamkfaaGreatDoorZ6
import Derived.Test.YtpfofefecamkfaaGreatDoorZ18
namespace Go.Proofs.YtpfofefecamkfaaGreatDoor
open Go.RowKit Proofs.Tryz
set_option maxRecDepth 100000
set_option maxHeartbeats 16000000
set_option linter.all false
theorem Rv {w M R rb K c q A ts cs}(h:RwQ w M R rb K q A c ts cs)(old new)(hs:new.size<=9223372036854775807):Calls prog 174 #[iq rb 0,.string old,.string new] w (I5 M R w rb K (eD ts cs old new)):=by
 obtain⟨-,-,c2,-,-,c5⟩:=h.bx.c6;have:=h.bx.free 2 gj;obtain⟨b1,a1⟩:∃b,(cs.toList==old.toList)=b:=⟨_,rfl⟩;go_enter func174,ntmps174;cases b1 with
 | false=>
   (go_wp2_with fail);go_ret;exact h.end_ (.refl _ _) ⟨rfl,λe _=>by rw[e]at a1;simp at a1⟩
 | true=>
   (go_wp2_with fail);refine(KC w new hs).mono ?_;rintro e w1 ⟨rfl,rfl⟩;cases hb:Aq new with
   | false=>
     (go_wp2_with fail);go_ret;exact h.end_ (.refl _ _) ⟨rfl,λ_ e=>by rw[hb]at e;cases e⟩
   | true=>
     (go_wp2_with fail);refine(MP h).mono ?_;rintro e w1 ⟨rfl,rfl⟩;(go_wp2_with fail);go_ret;refine RwQ.end_ (w:=w) (w':=w.setCell (gX rb 2) (.string new)) (q:=q) (A:=A) (c:=c) (ts:=ts) (cs:=new) ⟨h.bx.set (j:=2) (.string new) rfl,Bn h.row (λg hg hl=>Below.heap_setCell _ _ _ _ (h.own hg).2),h.at_,λx hx=>(h.ins x hx).keep gj λp hp _=>(CL (p:=gX rb 2) (q:=p) (λe=>hp (by rw[show p.block=rb from e];exact h.sub _ h.rb_)) _).1,h.q0,h.rb_,h.sub,by simpa using h.lt,h.kk,h.nms⟩ ⟨rfl,rfl,rfl,gj,λk _ hk=>Below.heap_setCell _ _ _ _ (λe=>hk (by rw[e];exact h.rb_))⟩ ⟨rfl,λ_ _=>⟨rfl,rfl⟩⟩
theorem eH {w M R rb K c q A ts cs}(h:RwQ w M R rb K q A c ts cs)(hK:K<=900000)(nm)(hn:nm.size<=9223372036854775807)(bA bc bs)(hr:dM w (λk=>¬M k) 1 bA bs.length bc (AO bs)):
 Calls prog 132 #[iq rb 0,.string nm,.slice bA bs.length bc] w (I5 M R w rb (K+1) (MQ q ts cs nm bs)):=by
 have c5:=h.bx.cell 5 _ rfl;have HE:ga (∀k:Int,¬(ts=[]/\Aq nm=true/\bs.length<=65536/\(bs.length:Int)<=q)->I5 M R w rb (K+1) (MQ q ts cs nm bs) (.returned (io k)) w):=AB λk hn=>(h.kle (Nat.le_succ _)).end_ (.refl _ _) ⟨rfl,λa b c d=>absurd ⟨a,b,c,d⟩ hn⟩;have hD:RwQ w.drew M R rb K q A c ts cs:=h.mst (N:=λ_=>False) (dI.refl _ w).drew λ_ q=>q.elim;have az:ga (∀k:Int,¬(ts=[]/\Aq nm=true/\bs.length<=65536/\(bs.length:Int)<=q)->I5 M R w rb (K+1) (MQ q ts cs nm bs) (.returned (io k)) w.drew):=AB λk hn=>(hD.kle (Nat.le_succ _)).end_ (dI.refl _ w).drew ⟨rfl,λa b c d=>absurd ⟨a,b,c,d⟩ hn⟩;go_enter func132,ntmps132;go_wp2_with fail
 refine(KC w nm hn).mono ?_;rintro e w1 ⟨rfl,rfl⟩;cases ah:Aq nm with
 | false=>
   (go_wp2_with fail);go_ret;exact HE.o 1 λq=>by rw[ah]at q;cases q.2.1
 | true=>
 have aB:nm.size<=24:=by by_cases h:nm.size<=24;exact h;rw[Ga gd]at ah;cases ah
 go_wp2_with fail
 refine(MO h nm).mono ?_;rintro e w1 ⟨k,rfl,k1,k2,rfl,_⟩;by_cases hk:0<=k
 .have aC:decide (0<=k)=true:=AF hk;go_wp2_with fail
  go_ret;exact HE.o 3 λq=>by rw[q.1]at k2;have:k<0:=k2;omega
 have aC:decide (0<=k)=false:=AG hk;clear hk k1 k2;have aW:bs.length<=9223372036854775807:=by have h1:=hr.rd.le;have h2:=hr.rd.cap;unfold maxLen at h2;omega
 by_cases ai:65536<bs.length
 .have aD:=gG 65536 bs.length;go_wp2_with fail
  go_ret;exact HE.o 5 λq=>gd
 have aD:=gH 65536 bs.length;have aX:bs.length<=65536:=gd;clear ai;go_upto_region 9 with fail
 have d0:=hD.bx.cell 0 _ rfl;refine wp_region_held_drew (S:=λw'=>w'.cell? (gX rb 0)=some (io q)) gh ?_ (λhHeld=>?_)
 .exact d0
 refine tK 0 ?_;refine tK 1 ?_;refine tK 2 ?_;refine tK 5 ?_;refine tK 6 ?_;refine tK 7 ?_;refine tK 8 ?_;refine rD 3 λK0 aE=>?_;go_simp;go_at_call 140;refine(eC hD).mono ?_;rintro e w2 ⟨un,rfl,rfl,HU⟩;obtain⟨qb,aj⟩:∃x,decide (q<IntKind.i64.wrap ((bs.length:Int)+un))=x:=⟨_,rfl⟩;refine aE.out _ _ d0 (λhHeld=>?_);clear aE K0;refine tK 4 ?_;refine tK 9 ?_;refine wpAnyH_done gh ?_ _;cases qb with
 | true=>
   (go_wp2_with fail);go_ret;exact az.o 122 λp=>by
    rw[HU.o p.1,IntKind.wrap_i64]at aj;have:=of_decide_eq_true aj;have:=p.2.2.2;omega
 | false=>
 have aF:dM w.drew (λk=>¬M k) 1 bA bs.length bc (AO bs):=hr.keep (AD _) λ_ _ _=>rfl;have aG:dI R w w.drew:=(dI.refl _ w).drew;have aH:=h.lt;clear aj d0 h hr HE az HU;go_wp2_with fail
 generalize w.drew=w2 at *;refine(MP hD).mono ?_;rintro e w3 ⟨rfl,rfl⟩;have aY:((0:Int)==121)=false:=rfl;have Z:=Ew w2 (base:=w2.heap.size) 5 1 0 #[] (AD _) gm rfl;have k1:=aF.rd.alloc (AD _) (.cells #[] 5);have ak:=hI w2 (.cells #[] 5);go_wp2_with (at_builtin;refine Aw _ As rfl (.tmp 42) (.tmp 43) rfl w2.heap.size _ 0 [] rfl Z w2.heap.size bA _ bc _ rfl k1 (Bb _) gd gj ?_;intro v4 w4 I aI _;simp only[BL,CN]at I;obtain⟨A4,c4,rfl⟩:=BK I)
 have ad:=Au ak (AD _) Z aI ak.size;clear Z k1 ak aI;obtain⟨y5,am⟩:=gZ w4 #[.string nm,.slice A4 bs.length c4,.bool true] 207;have ao:=AM ad ad.size am;have aJ:dM w4 (λk=>¬M k/\k<w4.heap.size) 1 A4 bs.length c4 (AO bs):=dM.own I λk hk hl=>⟨λq=>by have:=hD.lt k q;omega,hl⟩;have aK:=aJ.low am;have aL:w4.heap.size<(w4.alloc (.cells #[.string nm,.slice A4 bs.length c4,.bool true] 207)).heap.size:=y5.z;have aZ:=ad.size;clear am ad I aJ;go_wp2_with fail
 generalize w4.alloc _=w5 at *;generalize w4.heap.size=yb at *;obtain⟨B,hB⟩:=ib w5.heap.size;rw[<-hB]at aL;obtain⟨xx,aa⟩:∃xx:Tg,xx=⟨nm,bs,true,A4,c4⟩:=⟨_,rfl⟩;have aM:dH w5 yb [.string xx.nm,.slice xx.A xx.bs.length xx.c,.bool xx.lo]:=by rw[aa];exact y5
 have aN:dM w5 (λk=>¬M k/\k<B) 1 xx.A xx.bs.length xx.c (AO xx.bs):=by rw[aa];exact aK.imp λk hk _=>⟨hk.1,gd⟩
 have ap:RwQ w5 M R rb K q A c ts cs:=hD.mst (N:=λ_=>False) (dI.of ao) λ_ q=>q.elim;have aO:dI R w w5:=aG.trans (dI.of ao);have aP:∀x∈ts,dM w5 (λk=>¬M k/\k<B) 1 x.A x.bs.length x.c (AO x.bs):=λx hx=>(ap.ins x hx).imp λk hk hl=>⟨hk,gd⟩;have:ts.length<=900000:=by have:=hD.kk;omega
 have aQ:xx.nm.size<=24:=by rw[aa];exact aB
 have HX:=AB (And.intro ap (And.intro aM (And.intro aN (And.intro aO (And.intro aP (And.intro aH (And.intro hD.kk (And.intro aQ (And.intro aa hD.nms)))))))));clear aH aQ aa aM ap y5 aK aN ao aO aG aP hD aF aZ aY aC aD aW aX c5;go_loopw [8,9,11] (λv8 v9 iv wr=>∃(k:Nat) (dn:Bool) (oA:Option Addr) (oc:Nat) (out:List Tg),v8 = .slice oA out.length oc/\v9 = .bool dn/\iv = io k/\k<=ts.length/\out.length<=k+dn.toNat/\ga (ThO wr B M oA oc out)/\Below B w5 wr/\ga (k=0->dn=false/\out=[])) (λ_ _ iv _=>ts.length-(intOf iv).toNat);case atStart=>exact⟨0,false,none,0,[],rfl,rfl,rfl,AU _,AU _,AB ⟨Av _ _ _ _,gj,gd,gj⟩,AC _ _,AB λ_=>⟨rfl,rfl⟩⟩
 case round=>
  obtain⟨i,dn,oA,oc,out,rfl,rfl,rfl,hi,ab,HT,G,HZ⟩:=hrel;have aq:Below w5.heap.size w5 wr:=by rw[<-hB];exact G
  have hR:=HX.o.1.mst (N:=λ_=>False) (dI.of aq) λ_ q=>q.elim;have c1:=hR.bx.cell 1 _ rfl;have hy:=HX.o.2.1.keep G aL;obtain⟨y0,y1,y2⟩:=hy.c3;by_cases T:i<ts.length
  .obtain⟨b,off,hA,hx⟩:=hR.el T;obtain⟨x,ae⟩:=ia (ts.getD i default);obtain⟨x0,x1,x2⟩:=hx _ ae;have ar:=HX.o.2.2.2.2.1 _ (B9 T);have au:=HX.o.2.2.2.2.2.2.2.2.2 _ (B9 T);rw[hA]at c1;clear hx;rw[ae]at ar au;have a0:=AB au;clear au;have a1:=AB ae;clear ae;obtain⟨tb,a2⟩:=ia (Op.bytesLess nm.toList x.nm.toList);obtain⟨cd,av⟩:=ia (!dn&&tb);have HR:=gR hR ar;clear hy hR aq ar;(go_upto_region 20 with fail);go_cut [68] from 55 to 68 (λv wx=>v = .bool cd/\wr=wx);case first=>cases dn<;>cases tb<;>(subst av;go_wp2_with fail;go_meet;exact⟨rfl,rfl⟩)
   case rest=>
   obtain⟨rfl,rfl⟩:=hcut;go_upto_if 68 with fail;go_cut [8,9] from 69 to 72 (λv8 v9 wx=>∃(dn:Bool) (oA:Option Addr) (oc:Nat) (out:List Tg),v8 = .slice oA out.length oc/\v9 = .bool dn/\out.length<=i+dn.toNat/\ga (ThO wx B M oA oc out)/\Below B wr wx);case first=>
    cases cd with
    | false=>
      (go_wp2_with fail);go_meet;exact⟨_,_,_,_,rfl,rfl,ab,HT,AC _ _⟩
    | true=>
       obtain rfl:dn=false:=by cases dn with|false=>rfl|true=>cases av
       have ho:=HT.o.own;have V:=HT.o.z;have aR:out.length<=i:=by simpa using ab
       have O:=HX.o.2.2.1.keep G.size λp hp _=>G.cell hp.2;have HM:=AB (fun(g c2:Nat) (w2:World) h1 h2=>HT.o.more (y:=xx) (g:=g) (c2:=c2) (w':=w2) O h2 HX.o.2.2.2.2.2.2.2.1 h1);clear O;go_wp2_with (at_builtin;refine FO (enc:=thV) MN rfl (.tmp 69) (.tmp 71) rfl ho V xx KD (MM xx) rfl rfl gd ?_;intro g c2 w2 h1 h2 _)
       go_meet;exact⟨true,some ⟨g,0,none⟩,c2,out++[xx],by rw[AR];rfl,rfl,gt,AB (HM.o g c2 w2 h1 h2),h2⟩
   case rest=>
   obtain⟨aw,a6,a7,aS,rfl,rfl,aR,ax,aT⟩:=hcut;have af:=G.trans aT;have ay:=HX.o.1.mst (N:=λ_=>False) (dI.of (by rw[<-hB];exact af)) λ_ q=>q.elim;clear x0 x1 x2 c1 y0 y1 y2;have c1:=ay.bx.cell 1 _ rfl;obtain⟨b2,a4,a3,aU⟩:=ay.el T;obtain⟨x0,x1,x2⟩:=aU _ a1.o;rw[a3]at c1;have O:=HR.o.2.keep af.size λp hp _=>af.cell hp.2;have HM:=AB (fun(g c2:Nat) (w9:World) h1 h2=>ax.o.more (y:=x) (g:=g) (c2:=c2) (w':=w9) O h2 a0.o h1);have ho:=ax.o.own;have V:=ax.o.z;have:aw.toNat<=1:=by cases aw<;>decide
   clear aU O ay aT G ab HT av a2;go_wp2_with (at_builtin;refine FO (enc:=thV) MN rfl (.tmp 73) (.tmp 81) rfl ho V x KD (MM x) rfl rfl gd ?_;intro g c2 w9 h1 h2 _)
   go_roundw;case rel=>exact⟨i+1,aw,some ⟨g,0,none⟩,c2,aS++[x],by rw[AR];rfl,rfl,by go_num,T,gt,AB (HM.o g c2 w9 h1 h2),af.trans h2,AB λe=>gd⟩
   case measure=>simp[intOf];omega
  have f1:=hR.bx.free 1 gj;have ho:=HT.o.own;have V:=HT.o.z;have O:=HX.o.2.2.1.keep G.size λp hp _=>G.cell hp.2;have HM:=AB (fun(g c2:Nat) (w9:World) h1 h2=>HT.o.more (y:=xx) (g:=g) (c2:=c2) (w':=w9) O h2 HX.o.2.2.2.2.2.2.2.1 h1);have HF:=AB (fun(oA:Option Addr) (oc:Nat) (o:List Tg) (w9:World) (h1:ThO w9 B M oA oc o) (h2:Below B w5 w9) (h3:o.length<=K+1)=>HX.o.1.lay (w:=w) (wr:=w9) (oA:=oA) (oc:=oc) (out:=o) (by rw[<-hB];exact h1) (by rw[<-hB];exact h2) h3 HX.o.2.2.2.1 HX.o.2.2.2.2.2.1);have HG:ga (ts=[]->dn=false/\out++[xx]=[⟨nm,bs,true,A4,c4⟩]):=AB λe=>by
   have hz:=HZ.o (by rw[e]at T hi;simpa using hi);exact⟨hz.1,by rw[hz.2,HX.o.2.2.2.2.2.2.2.2.1];rfl⟩
  have:=HX.o.2.2.2.2.2.2.1;have ag:rb<B:=by rw[hB];exact HX.o.1.bx.z
  clear O hy hR aq;cases dn with
  | true=>
    have aV:out.length<=i+1:=by simpa using ab
    clear y0 y1 y2 ho;(go_wp2_with fail);go_ret;obtain⟨M2,R2,g1,g2⟩:=HF.o oA oc out wr HT.o G gd;exact⟨_,q,_,_,_,_,M2,R2,rfl,g1,g2,rfl,λe=>(by cases (HG.o e).1)⟩
  | false=>
    have aV:out.length<=i:=by simpa using ab
    go_upto_region 26 with (at_builtin;refine FO (enc:=thV) MN rfl (.tmp 85) (.tmp 87) rfl ho V xx KD (MM xx) rfl rfl gd ?_;intro g c2 w9 h1 h2 _)
    have:=(h2.frozen (p:=gX rb 1) ag).trans f1;have:=(h2.cell (p:=gX rb 1) ag).trans c1;clear f1 c1 y0 y1 y2 ho V;have HH:=AB (HF.o (gY g 0) c2 (out++[xx]) w9 (HM.o g c2 w9 h1 h2) (G.trans h2) gt);clear h1 h2 HF HM;(go_wp2_with fail);go_ret;have h:=HH.o;rw[AR]at h;obtain⟨M2,R2,g1,g2⟩:=h;exact⟨_,q,_,_,_,_,M2,R2,rfl,g1,g2,rfl,λe _ _ _=>⟨rfl,A4,c4,(HG.o e).2⟩⟩
theorem MR:∀(f:Nat) (n:Nat) (w:World),n<f->n<=4611686018427387904->Calls prog 131 #[io n] w λe w'=>e = .returned (.string ⟨(Lib.decDigits n).toArray⟩)/\Below w.heap.size w w'
 | 0,n,w,h,_=>absurd h gd
 | f+1,n,w,h,hf=>by
   by_cases hn:n<10
   .have t4:=gG n 10;obtain⟨c,hc⟩:=ib (UInt8.ofNat (48+n));have I:c.toNat=48+n:=by rw[hc,UInt8.toNat_ofNat'];omega
    have T:wrap64 (48+(n:Int))=(c.toNat:Int):=by rw[F7 _ ⟨gd,gd⟩];omega
    have V:IntKind.u8.wrap (c.toNat:Int)=(c.toNat:Int):=by have:=c.toNat_lt;rw[IntKind.wrap_u8];omega
    have HE:ga (Lib.decDigits n=[c]):=AB (by rw[Lib.decDigits,dif_pos hn,hc]);have hb:=hI w (.cells #[ip c.toNat] 5);obtain⟨A,k,hA,hr⟩:=Jo w c;have O:(c.toNat:Int)=48+(n:Int):=gd;injection hA with q1 q2 q3;subst q1 q3;rw[O]at hr hb;have Z:=Eb (P:=prog) _ underlying55 underlying5 underlying9 hr;simp only[Ea]at Z;have HB:=AB hb;clear hc I hr T V O hb q2;go_enter func131,ntmps131;(go_upto_region 2 with fail);(go_wp2_with fail);go_ret;exact⟨congrArg (λl:List UInt8=>Ending.returned (Value.string ⟨l.toArray⟩)) HE.o.symm,HB.o⟩
   have t4:=gH n 10;obtain⟨c,hc⟩:=ib (UInt8.ofNat (48+n % 10));have I:c.toNat=48+n % 10:=by rw[hc,UInt8.toNat_ofNat'];omega
   have T:wrap64 (48+((n:Int) % 10))=(c.toNat:Int):=by rw[F7 _ ⟨gd,gd⟩];omega
   have V:IntKind.u8.wrap (c.toNat:Int)=(c.toNat:Int):=by have:=c.toNat_lt;rw[IntKind.wrap_u8];omega
   have:(n:Int).tdiv 10=((n/10:Nat):Int):=by rw[Int.tdiv_eq_ediv_of_nonneg gd];omega
   have O:48+(n:Int) % 10=(c.toNat:Int):=gd;have HE:ga (Lib.decDigits n=Lib.decDigits (n/10)++[c]):=AB (by rw[Lib.decDigits,dif_neg hn,hc]);have HI:=AB (λw'=>MR f (n/10) w' gd gd);have hj:(⟨(Lib.decDigits (n/10)).toArray⟩:ByteArray)++⟨[c].toArray⟩=⟨(Lib.decDigits n).toArray⟩:=by rw[HE.o];apply ByteArray.ext;simp[ByteArray.data_append]
   have HJ:=AB hj;clear hc I hj;go_enter func131,ntmps131;(go_upto_region 3 with fail);refine DR BC gh gh ?_;simp only[Bv,Bw];iterate 2 (refine zV ?_ rfl ?_ ?_;rotate_left 1;(·intro w' G C hC;go_simp;(try go_bits);exact hC);simp only[AX,AI,AH])
   refine C5 (.is (.string ⟨(Lib.decDigits (n/10)).toArray⟩)) (λ_ _ h=>by cases h) rfl rfl (Cq _) (λw' G=>?_) ?_
   .go_simp;exact⟨AC _ _,(HI.o w').mono λe ad h=>Db h.1 h.2⟩
   simp only[AX,AI,AH];iterate 4 (refine zV ?_ rfl ?_ ?_;rotate_left 1;(·intro w' G C hC;go_simp;(try go_bits);exact hC);simp only[AX,AI,AH])
   refine C5 (Slot.has (F9 [c])) (λ_ _ h=>by cases h) rfl rfl (J6 _) (λw' G=>?_) ?_
   .go_simp;exact⟨(AC _ _).alloc (AD _) _,Jo w' c⟩
   simp only[AX,AI,AH];refine La 17 (_) underlying55 underlying5 underlying9 rfl rfl gj rfl rfl (λ_=>rfl) ?_;simp only[AX,AI,AH];refine Cr BC ?_ (λ_ _ h=>by cases h) rfl rfl ?_ ?_;rotate_left 1
   .intro w' G C hC;have:¬(9223372036854775807<(Lib.decDigits (n/10)).length+1):=by have:=Jn (n/10);omega
    go_simp;try go_bits
    exact hC
   simp only[AX,AI,AH];refine Cr BC ?_ (λ_ _ h=>by cases h) rfl rfl ?_ ?_;rotate_left 1
   .intro w' G C hC;go_simp;try go_bits
    exact hC
   simp only[AX,AI,AH];intro w6 aa;simp only[C6];intro u hu;have ab:=BY aa;(go_wp2_with fail);go_ret;exact⟨congrArg (λs=>Ending.returned (Value.string s)) HJ.o,ab⟩
theorem eK (w s)(hs:s.size<=24):Calls prog 130 #[.string s] w λe w'=>(∃k:Int,e = .returned (io k))/\Below w.heap.size w w':=by
 go_enter func130,ntmps130;go_upto_region 1 with fail
 go_cut [22] from 5 to 22 (λv wx=>(v = .bool true\/(v = .bool false/\2<=s.size/\s.size<=15))/\w=wx);case first=>
  by_cases h2:s.size<2
  .have t1:=gG s.size 2;(go_wp2_with fail);go_meet;exact⟨.inl rfl,rfl⟩
  have t1:=gH s.size 2;by_cases G:15<s.size
  .have t2:=gG 15 s.size;(go_wp2_with fail);go_meet;exact⟨.inl rfl,rfl⟩
  have t2:=gH 15 s.size;have h0:0<s.size:=gd;have HH:=gR h2 G;clear h2 G;obtain⟨x,hx⟩:=ia ((s[0]'h0).toNat);obtain⟨b1,a1⟩:∃b,decide ((x:Int)<97)=b:=⟨_,rfl⟩;obtain⟨b2,a2⟩:∃b,decide ((122:Int)<(x:Int))=b:=⟨_,rfl⟩;cases b1<;>cases b2<;>(go_wp2_with fail;go_meet;refine⟨?_,rfl⟩;first|exact .inl rfl|exact .inr ⟨rfl,by have:=HH.o;omega,by have:=HH.o;omega⟩)
 case rest=>
 obtain⟨hv,hw⟩:=hcut;subst hw;rcases hv with rfl|⟨rfl,h2,G⟩
 .go_wp2_with fail
  refine(eI w s gd).mono ?_;rintro e w1 ⟨⟨k,rfl⟩,rfl⟩;go_wp2_with fail
  go_ret;exact⟨⟨_,rfl⟩,AC _ _⟩
 go_wp2_with fail
 go_loopw [3,4] (λnv iv wr=>∃n k:Nat,nv = io n/\iv = io k/\1<=k/\k<=s.size/\ga (n<10^(k-1))/\w=wr) (λ_ iv _=>s.size-(intOf iv).toNat);case atStart=>exact⟨0,1,rfl,rfl,gd,gd,AB gm,rfl⟩
 case round=>
  obtain⟨n,k,rfl,rfl,ab,hk,HN,rfl⟩:=hrel;have:=eJ HN.o gd;by_cases V:k<s.size
  .obtain⟨z,hz⟩:∃x,(s[k]'V).toNat=x:=⟨_,rfl⟩;by_cases c1:z<48
   .have e1:=gG z 48;(go_wp2_with fail);go_ret;exact⟨⟨_,rfl⟩,AC _ _⟩
   have e1:=gH z 48;by_cases c2:57<z
   .have e2:=gG 57 z;(go_wp2_with fail);go_ret;exact⟨⟨_,rfl⟩,AC _ _⟩
   have e2:=gH 57 z;have:IntKind.u8.wrap ((z:Int)-48)=((z-48:Nat):Int):=by rw[IntKind.wrap_u8];omega
   have:IntKind.i64.wrap ((z-48:Nat):Int)=((z-48:Nat):Int):=by rw[IntKind.wrap_i64];omega
   have:IntKind.i64.wrap (10 * (n:Int))=((10 * n:Nat):Int):=by rw[IntKind.wrap_i64];omega
   have:IntKind.i64.wrap (((10 * n:Nat):Int)+((z-48:Nat):Int))=((10 * n+(z-48):Nat):Int):=by rw[IntKind.wrap_i64];omega
   have Z:ga (10 * n+(z-48)<10^(k+1-1)):=AB (by
    have:=HN.o;rw[show k+1-1=k-1+1 by omega,Nat.pow_succ];omega)
   (go_wp2_with fail);go_roundw;case rel=>exact⟨10 * n+(z-48),k+1,by go_num,by go_num,gd,gd,Z,trivial⟩
   case measure=>simp[intOf];omega
  go_upto_region 10 with fail
  by_cases aa:n=0
  .have e1:((n:Int)==0)=true:=by rw[aa];rfl
   refine DR BC gh gh ?_;simp only[Bv,Bw];iterate 9 ((first|(refine zS rfl ?_)|(refine zV ?_ rfl ?_ ?_;rotate_left 1;(·intro w' I C hC;go_simp;(try go_bits);exact hC)));simp only[AX,AI,AH])
   intro w6 O;simp only[C6];have T:=BY O;(go_wp2_with fail);go_ret;exact⟨⟨_,rfl⟩,T⟩
  have e1:=gL n 0;have:(1:Int)<=(s.size:Int):=gd;have HI:=AB (λw'=>MR (n+1) n w' gd gd);refine DR BC gh gh ?_;simp only[Bv,Bw];iterate 4 (refine zV ?_ rfl ?_ ?_;rotate_left 1;(·intro w' I C hC;go_simp;(try go_bits);exact hC);simp only[AX,AI,AH])
  refine C5 (.is (.string ⟨(Lib.decDigits n).toArray⟩)) (λ_ _ h=>by cases h) rfl rfl (Cq _) (λw' I=>?_) ?_
  .go_simp;exact⟨AC _ _,(HI.o w').mono λe ad h=>Db h.1 h.2⟩
  simp only[AX,AI,AH];iterate 4 (refine zV ?_ rfl ?_ ?_;rotate_left 1;(·intro w' I C hC;go_simp;(try go_bits);exact hC);simp only[AX,AI,AH])
  intro w6 O;simp only[C6];have T:=BY O;go_wp2_with fail
  all_goals (go_ret;exact⟨⟨_,rfl⟩,T⟩)
theorem KF {w M R rb K c q A ts cs}(h:RwQ w M R rb K q A c ts cs)(hK:K<=900000)(db vs)(hx:dH w db (iq rb 0::vs))(hdb:¬R db)(ch bA bc bs)(hr:dM w (λk=>¬M k) 1 bA bs.length bc (AO bs)):
 Calls prog 64 #[iq db 0,ip ch.toNat,.slice bA bs.length bc] w (Ry M R w rb (K+1) (Rx q ts cs ch bs)):=by
 have HE:ga (∀(k:Int) (w':World),Below w.heap.size w w'->¬(ts=[]/\ch=116)->Ry M R w rb (K+1) (Rx q ts cs ch bs) (.returned (.tuple #[.string ⟨#[]⟩,io k])) w'):=AB λk w' hb hn=>⟨_,k,q,A,c,ts,cs,M,R,rfl,gm,.low hb,(h.low hb).kle (Nat.le_succ _),rfl,λa b _ _=>absurd ⟨a,b⟩ hn⟩;have:=h.len;have d0:=hx.cell 0 _ rfl;have c5:=h.bx.cell 5 _ rfl;have HH:=AB h;have HX:=AB hx;obtain⟨b1,a1⟩:∃b,decide ((ch.toNat:Int)<97)=b:=⟨_,rfl⟩;obtain⟨b2,a2⟩:∃b,decide ((122:Int)<(ch.toNat:Int))=b:=⟨_,rfl⟩;have HC:ga (ch=116->b1=false/\b2=false):=AB λe=>by rw[<-a1,<-a2,e];exact⟨rfl,rfl⟩
 go_enter func64,ntmps64;go_upto_region 1 with fail
 go_cut [17] from 12 to 17 (λv wx=>v = .bool (b1||b2)/\w=wx);case first=>cases b1<;>cases b2<;>(go_wp2_with fail;go_meet;exact⟨rfl,rfl⟩)
 case rest=>
 obtain⟨rfl,hw⟩:=hcut;subst hw;clear a1 a2;cases ab:(b1||b2)with
 | true=>
   (go_wp2_with fail);go_ret2;exact HE.o 1 w (AC _ _) λp=>by rw[(HC.o p.2).1,(HC.o p.2).2]at ab;cases ab
 | false=>
 clear ab HC;go_wp2_with fail
 go_loopw [8,9] (λmv iv wr=>∃(m:Int) (i:Nat),mv = io m/\0<=m/\iv = io i/\i<=ts.length/\Below w.heap.size w wr/\ga (i=0->m=0)) (λ_ iv _=>ts.length-(intOf iv).toNat);case atStart=>exact⟨0,0,rfl,gd,rfl,AU _,AC _ _,AB λ_=>rfl⟩
 case round=>
  obtain⟨m,i,rfl,hm,rfl,hi,hb,HM⟩:=hrel;clear c5 d0;have hR:=HH.o.low hb;have hX:=HX.o.keep hb HX.o.z;have d0:=hX.cell 0 _ rfl;have c1:=hR.bx.cell 1 _ rfl;by_cases ad:i<ts.length
  .obtain⟨b,off,hA,af⟩:=hR.el ad;obtain⟨x0,_,_⟩:=af _ rfl;have ak:=hR.nms _ (B9 ad);rw[hA]at c1;generalize ts.getD i default=x at *;have HR:=AB hR;have Z:=AB hX;clear hR hX af;(go_wp2_with fail);refine(eK wr x.nm ak).mono ?_;rintro e w2 ⟨⟨k,rfl⟩,hb2⟩;(go_wp2_with fail);go_roundw;case rel=>exact⟨max m k,i+1,by go_num,gd,by go_num,ad,AM hb hb.size hb2,AB λe=>gd⟩
   case measure=>simp[intOf];omega
  by_cases T:1073741824<=m
  .have t1:decide ((1073741824:Int)<=m)=true:=AF T;clear hR hX;(go_wp2_with fail);go_ret2;exact HE.o 6 wr hb λp=>by
    have:=HM.o (by rw[p.1]at hi;simpa using hi);omega
  have t1:decide ((1073741824:Int)<=m)=false:=AG T;obtain⟨n,rfl⟩:=Int.eq_ofNat_of_zero_le hm;have hn:n<1073741824:=gd;have:=Jn (n+1);have HI:=AB (λw'=>MR (n+2) (n+1) w' gd gd);have q1:IntKind.i64.wrap ((n:Int)+1)=((n+1:Nat):Int):=by rw[IntKind.wrap_i64];omega
  have HR:=AB hR;have Z:=AB hX;clear hR hX T;go_upto_region 12 with fail
  refine DR BC gh gh ?_;simp only[Bv,Bw];refine Cr BC ?_ (λ_ _ h=>by cases h) rfl rfl ?_ ?_;rotate_left 1
  .intro w' V C hC;go_simp;try go_bits
   exact hC
  simp only[AX,AI,AH];refine C5 (Slot.has (F9 [ch])) (λ_ _ h=>by cases h) rfl rfl (J6 _) (λw' V=>?_) ?_
  .go_simp;exact⟨(AC _ _).alloc (AD _) _,Jo w' ch⟩
  simp only[AX,AI,AH];refine La 54 (_) underlying55 underlying5 underlying9 rfl rfl gj rfl rfl (λ_=>rfl) ?_;simp only[AX,AI,AH];iterate 2 (refine zV ?_ rfl ?_ ?_;rotate_left 1;(·intro w' V C hC;go_simp;(try go_bits);exact hC);simp only[AX,AI,AH])
  refine C5 (.is (.string ⟨(Lib.decDigits (n+1)).toArray⟩)) (λ_ _ h=>by cases h) rfl rfl (Cq _) (λw' V=>?_) ?_
  .go_simp;exact⟨AC _ _,(HI.o w').mono λe ar h=>Db h.1 h.2⟩
  simp only[AX,AI,AH];refine Cr BC ?_ (λ_ _ h=>by cases h) rfl rfl ?_ ?_;rotate_left 1
  .intro w' V C hC;have:¬(9223372036854775807<1+(Lib.decDigits (n+1)).length):=gd;go_simp;try go_bits
   exact hC
  simp only[AX,AI,AH];refine Cr BC ?_ (λ_ _ h=>by cases h) rfl rfl ?_ ?_;rotate_left 1
  .intro w' V C hC;go_simp;try go_bits
   exact hC
  simp only[AX,AI,AH];intro w6 ag;simp only[C6];intro u hu;have aa:=BY ag;obtain⟨nm,I⟩:=ib ((⟨[ch].toArray⟩:ByteArray)++⟨(Lib.decDigits (n+1)).toArray⟩);have am:nm.size<=2147483648:=by rw[I,ByteArray.size_append];show 1+(Lib.decDigits (n+1)).toArray.size<=_;rw[List.size_toArray];omega
  have HN:ga (ts=[]->ch=116->nm=⟨#[116,49]⟩):=AB λe1 e2=>by
   have:=HM.o (by rw[e1]at hi;simpa using hi);obtain rfl:n=0:=gd;rw[I,e2,Lib.decDigits,dif_pos gm];apply ByteArray.ext;rw[ByteArray.data_append];rfl
  rw[<-I];have hR:=HR.o.low aa;have hX:=Z.o.keep aa Z.o.z;have ae:=AM hb hb.size aa;have ao:=hr.low ae;have HB:=AB ae;have d0:=hX.cell 0 _ rfl;have ah:=AB hX;have ap:=AB hR;clear I hX hR aa ae ag hu HI q1 HR Z c1 hb;go_wp2_with fail
  refine(eH ap.o hK nm gd bA bc bs ao).mono ?_;rintro e w8 ⟨k,q8,A8,c8,ts8,cs8,M8,R8,rfl,g8,r8,G,G8⟩;have:¬R8 db:=λq=>hdb (g8.rn db q ah.o.z);have hX:=g8.m.box ah.o hdb;have d0:=hX.cell 0 _ rfl;have HF:=gS g8 G G8;have ai:=AB r8;clear g8 r8 G G8;by_cases hk:k=0
  .subst hk;(go_wp2_with fail);refine(eF ai.o nm).mono ?_;rintro e w9 ⟨k,q9,A9,c9,ts9,cs9,M9,R9,rfl,g9,r9,O,G9⟩;have aj:=gT g9 r9 O G9;clear g9 r9 O G9;by_cases hk:k=0
   .subst hk;(go_wp2_with fail);go_ret2;obtain⟨g8,G,G8⟩:=HF.o;obtain⟨g9,r9,O,G9⟩:=aj.o;refine⟨nm,0,_,_,_,_,_,_,_,rfl,am,((Grw.low HB.o).trans g8).trans g9,r9,O.trans G,λa b c d=>?_⟩;have I:=HN.o a b;obtain⟨_,A2,c2,e2⟩:=G8 a (by rw[I];exact KE) c d;exact⟨rfl,I,A2,c2,(G9 _ e2 rfl).2⟩
   have t1:(k==0)=false:=by rw[AQ];exact hk
   (go_wp2_with fail);go_ret2;obtain⟨g8,G,G8⟩:=HF.o;obtain⟨g9,r9,O,G9⟩:=aj.o;refine⟨_,k,_,_,_,_,_,_,_,rfl,gm,((Grw.low HB.o).trans g8).trans g9,r9,O.trans G,λa b c d=>?_⟩;obtain⟨_,A2,c2,e2⟩:=G8 a (by rw[HN.o a b];exact KE) c d;exact absurd (G9 _ e2 rfl).1 hk
  have t1:(k==0)=false:=by rw[AQ];exact hk
  go_wp2_with fail
  go_ret2;obtain⟨g8,G,G8⟩:=HF.o;exact⟨_,k,_,_,_,_,_,_,_,rfl,gm,(Grw.low HB.o).trans g8,ai.o,G,λa b c d=>absurd (G8 a (by rw[HN.o a b];exact KE) c d).1 hk⟩
theorem eP (w P x)(hx:KtQ w P x)(hok:x.ok)(ids iA ic)(hri:Rd w w.heap.size 1 iA ids.length ic (CY ids))(hi:ids.length<=1000000):Calls prog 129 #[.agg (dP x.sA x.ss.length x.sc x.nA x.ns.length x.nc x.cur.toNat),.slice iA ids.length ic] w (I6 w P Kt.nmb):=by
 have ab:=hok.bd;have:=ab.n32;obtain⟨oA,aC⟩:∃o,o=Obj.cells (dP x.sA x.ss.length x.sc x.nA x.ns.length x.nc x.cur.toNat) 39:=⟨_,rfl⟩;obtain⟨oB,aD⟩:∃o,o=Obj.cells Aa 39:=⟨_,rfl⟩;have x1:dH ((w.alloc oA).alloc oB) w.heap.size [.slice x.sA x.ss.length x.sc,.slice x.nA x.ns.length x.nc,il x.cur.toNat]:=by rw[aC];exact(AP w _ _).al oB
 have x2:dH ((w.alloc oA).alloc oB) (w.heap.size+1) [ir,ir,il 0]:=by rw[aD];exact(AP (w.alloc oA) _ _).at_ gj
 have ah:=Ah (Af w oA) (Af _ oB);have hz:((w.alloc oA).alloc oB).heap.size=w.heap.size+2:=gj;subst aC aD;go_enter func129,ntmps129;go_wp2_with fail
 generalize ((w.alloc _).alloc _)=w2 at *;obtain⟨b1,av⟩:∃b,b=w.heap.size:=⟨_,rfl⟩;rw[<-av]at x1 x2 hz ⊢;have HB:=AB av;have aE:=dJ.low hx ah;have ao:=(hri.below ah).more ah.size;clear av;go_loopw [6,7] (λnv iv wr=>∃(k:Nat) (nb:Bool),iv = io k/\k<=ids.length/\nv = .bool nb/\Below w2.heap.size w2 wr) (λ_ iv _=>ids.length-(intOf iv).toNat);case atStart=>exact⟨0,false,rfl,AU _,rfl,AC _ _⟩
 case round=>
  obtain⟨k,nb,rfl,hk,rfl,I⟩:=hrel;have X1:=x1.keep I x1.z;have X2:=x2.keep I x2.z;obtain⟨c0,c1,c2⟩:=X1.c3;by_cases aw:k<ids.length
  .obtain⟨bi,off,rfl,ax,fi⟩:=((ao.below I).more I.size).u64 aw;have aj:=(dJ.low aE I).tab;generalize ids.getD k default=y at *;obtain⟨i5,aF⟩:∃i,i=ixA (λf=>(f.p.id.toNat:Int)==(y.toNat:Int)) x.ns:=⟨_,rfl⟩;have aO:=AB aF;obtain⟨hb,aY⟩:=ia (decide (i5<0));obtain⟨eb,aP⟩:=ia ((y.toNat:Int)==(x.cur.toNat:Int));have zx:b1<wr.heap.size:=X1.z;have V:=gR X1 X2;clear aF X1 X2;(go_wp2_with fail);refine DR BC gh gh ?_;simp only[Bv,Bw];iterate 5 (refine zV ?_ rfl ?_ ?_;rotate_left 1;(·intro w' G C hC;have q0:=(G.cell (p:=gX b1 0) zx).trans c0;have q1:=(G.cell (p:=gX b1 1) zx).trans c1;have q2:=(G.cell (p:=gX b1 2) zx).trans c2;have q3:=(G.cell (p:=gX bi (off+k)) ax).trans fi;go_simp;(try go_bits);exact hC);simp only[AX,AI,AH])
   refine C5 (.is (io i5)) (λ_ _ h=>by cases h) rfl rfl (Cq _) (λw' G=>?_) ?_
   .go_simp;exact⟨AC _ _,(Zp w' x.sA x.sc x.ss x.nA x.nc x.ns x.cur.toNat (aj.drew.later G) y).mono λe a0 h=>Db (show e = .returned (io i5) from by rw[aO.o];exact h.1) h.2⟩
   simp only[AX,AI,AH];refine Cr BC ?_ (λ_ _ h=>by cases h) rfl rfl ?_ ?_;rotate_left 1
   .intro w' G C hC;go_simp;try go_bits
    exact hC
   simp only[AX,AI,AH];intro wd aG;simp only[C6];have ab:=BY aG;have X1:=V.o.1.keep ab V.o.1.z;have X2:=V.o.2.keep ab V.o.2.z;have ap:=AM I I.size ab;have:=X1.cell 2 _ rfl;have:=(ab.cell (p:=gX bi (off+k)) ax).trans fi;have aQ:=AB X2;clear c0 c1 c2 aj V ab aG I fi X1;cases hb with
   | true=>
     obtain⟨k0,k1,k2⟩:=X2.c3;obtain⟨q0,q1,q2⟩:=X2.f3;clear X2;(go_wp2_with fail);(try simp only[Exit.inBlock,Exit.then]);exact AW (BA (b:=b1+1) rfl _ _ rfl aQ.o.set3b) rfl (Gs (BV (ah.trans (ap.mono (by have:=HB.o;omega))) (by have:=HB.o;omega)) gm)
   | false=>
     clear X2;cases nb<;>cases eb<;>(go_wp2_with fail;go_quiet (fail);go_wp2_with fail;go_roundw;(case rel=>exact⟨k+1,_,by go_num,aw,rfl,CO ap _⟩);(case measure=>simp[intOf];omega))
  have V:=AB X2;have Z:Below w.heap.size w wr:=ah.trans (I.mono (by have:=HB.o;omega));cases nb with
  | true=>
    obtain⟨k0,k1,k2⟩:=X2.c3;obtain⟨q0,q1,q2⟩:=X2.f3;clear X2 X1;(go_wp2_with fail);(try simp only[Exit.inBlock,Exit.then]);exact AW (BA (b:=b1+1) rfl _ _ rfl V.o.set3b) rfl (Gs (BV Z (by have:=HB.o;omega)) gm)
  | false=>
    have ak:=Af wr (.cells #[.slice x.sA x.ss.length x.sc,ir,il x.cur.toNat] 39);have x5:=AP wr #[.slice x.sA x.ss.length x.sc,ir,il x.cur.toNat] 39;have aR:=X1.keep ak X1.z;have aS:=X2.keep ak X2.z;have aH:=Ah Z ak;have z5:b1+1<wr.heap.size:=X2.z;(go_wp2_with fail);generalize wr.alloc _=w5 at *;generalize wr.heap.size=b5 at *;have ay:b5<w5.heap.size:=x5.z;have aT:=AB aH;clear c0 c1 c2 X1 X2 Z I ak aE ao aw hk V ah aH x1 x2;have:x.ns.length<=9223372036854775807:=gd;go_loopw [9] (λiv wr=>∃(i:Nat) (uA:Option Addr) (uc:Nat) (dn:List Nl),iv = io i/\i<=x.ns.length/\dH wr b5 [.slice x.sA x.ss.length x.sc,.slice uA dn.length uc,il x.cur.toNat]/\wr.ownsRow w5.heap.size 43 7 (.slice uA dn.length uc) dn.length (dn.flatMap nlV)/\dn.length<=i/\ga (∀s∈dn,s∈x.ns)/\Below b5 w5 wr) (λiv _=>x.ns.length-(intOf iv).toNat);case atStart=>exact⟨0,none,0,[],rfl,AU _,x5,Av _ _ _ _,AU _,AB (λs hs=>by cases hs),AC _ _⟩
    case round=>
     obtain⟨m,uA,uc,dn,rfl,hm,X,O,a3,HM,I⟩:=hrel;have X1:=aR.keep I gd;have X2:=aS.keep I z5;have c1:=X1.cell 1 _ rfl;have Z:Below w.heap.size w wr:=aT.o.trans (I.mono (by have:=HB.o;omega));have aj:=dJ.low hx Z;have aI:=(hri.below Z).more Z.size;by_cases af:m<x.ns.length
     .obtain⟨bn,on,aJ,aa,f0,f1,f2,f3,f4,f5,f6⟩:=aj.n.rd.nl af;have aq:=B9 af;rw[aJ]at c1;clear aJ;generalize x.ns.getD m default=f at *;have ai:=gV f1 f2 f3 f4 f5 f6;have aU:=AB aq;clear f1 f2 f3 f4 f5 f6 aq;have aK:=X1.z;(go_wp2_with fail);go_loopw [10,11] (λgv kv wq=>∃(q:Nat) (gb:Bool),kv = io q/\q<=ids.length/\gv = .bool gb/\Below wr.heap.size wr wq) (λ_ kv _=>ids.length-(intOf kv).toNat);case atStart=>exact⟨0,false,rfl,AU _,rfl,AC _ _⟩
      case round=>
       obtain⟨q,gb,rfl,hq,rfl,T⟩:=hrel;have e1:=(T.cell (p:=gX b1 1) aK).trans c1;have e0:=(T.cell (p:=gX bn (on+m * 7)) aa).trans f0;by_cases ar:q<ids.length
       .obtain⟨bi,off,rfl,ax,fi⟩:=(aI.below T).u64 ar;generalize ids.getD q default=y at *;obtain⟨eb,aP⟩:=ia ((y.toNat:Int)==(f.p.id.toNat:Int));clear c1 f0;cases gb<;>cases eb<;>(go_wp2_with fail;go_quiet (fail);go_wp2_with fail;go_roundw;(case rel=>exact⟨q+1,_,by go_num,ar,rfl,CO T _⟩);(case measure=>simp[intOf];omega))
       have ag:=I.trans (T.mono (Ad X.z));have XQ:=X.keep T X.z;have OQ:=Ag O T;cases gb with
       | true=>
         (go_wp2_with fail);go_roundw;case rel=>exact⟨m+1,uA,uc,dn,by go_num,af,XQ,OQ,gd,HM,ag⟩
         case measure=>simp[intOf];omega
       | false=>
         have i0:=e0;have i1:=(T.cell (p:=gX bn (on+m * 7+1)) aa).trans ai.o.1;have i2:=(T.cell (p:=gX bn (on+m * 7+2)) aa).trans ai.o.2.1;have i3:=(T.cell (p:=gX bn (on+m * 7+3)) aa).trans ai.o.2.2.1;have i4:=(T.cell (p:=gX bn (on+m * 7+4)) aa).trans ai.o.2.2.2.1;have i5:=(T.cell (p:=gX bn (on+m * 7+5)) aa).trans ai.o.2.2.2.2.1;have i6:=(T.cell (p:=gX bn (on+m * 7+6)) aa).trans ai.o.2.2.2.2.2;have u1:=XQ.cell 1 _ rfl;have zu:=XQ.z;have aV:b1<wr.heap.size:=AV aK T.size;have ad:bn<wr.heap.size:=AV aa T.size;have az:=gR XQ OQ;have:w5.heap.size<=wr.heap.size:=ag.size;clear c1 f0 e0 O X XQ OQ;(go_wp2_with fail);refine II 8 BC gh gh ?_;simp only[Bv,Bw,EL,List.take_zero,List.drop_succ_cons,List.drop_zero];iterate 7 (refine zV ?_ rfl ?_ ?_;rotate_left 1;(·intro w' G C hC;have q0:=(G.cell (p:=gX b5 1) zu).trans u1;have q1:=(G.cell (p:=gX b1 1) aV).trans e1;have q2:=(G.cell (p:=gX bn (on+m * 7)) ad).trans i0;have q3:=(G.cell (p:=gX bn (on+m * 7+1)) ad).trans i1;have:=(G.cell (p:=gX bn (on+m * 7+2)) ad).trans i2;have:=(G.cell (p:=gX bn (on+m * 7+3)) ad).trans i3;have:=(G.cell (p:=gX bn (on+m * 7+4)) ad).trans i4;have:=(G.cell (p:=gX bn (on+m * 7+5)) ad).trans i5;have:=(G.cell (p:=gX bn (on+m * 7+6)) ad).trans i6;go_simp;(try go_bits);exact hC);simp only[AX,AI,AH])
         refine C5 (.has (MI f)) (λ_ _ h=>by cases h) rfl rfl (Zq _) (λw' G=>?_) ?_
         .go_simp;exact⟨(AC _ _).alloc (AD _) _,Zh w' f⟩
         simp only[AX,AI,AH];intro wA aL;simp only[C6];rintro a4 ⟨L9,rfl,hlit⟩;have am:=BY aL;have XA:=az.o.1.keep am az.o.1.z;have OA:=Ag az.o.2 am;have aM:Below b5 w5 wA:=AM ag (Ad zu) am;have au:w5.heap.size<=wA.heap.size:=aM.size;clear aL am e1 i0 i1 i2 i3 i4 i5 i6 u1 ag;go_wp2_with (at_builtin;refine Aw _ Ds rfl (.tmp 73) (.tmp 79) rfl w5.heap.size _ _ _ rfl OA wA.heap.size L9 1 1 _ rfl hlit (FU _) gd au ?_;intro v3 w8 ae aN _;obtain⟨rA,rc,rfl⟩:=BK ae;have aB:Below w5.heap.size wA w8:=(Au (AC _ _) (AD _) OA aN au);have X8:=XA.keep aB ay;have:=X8.cell 1 _ rfl;have:=X8.free 1 gj;have aW:Below b5 w5 w8:=aM.trans (aB.mono (Ad ay));have HO:=gR ae X8;clear ae aN aB X8)
         go_roundw;case rel=>
          have el:(dn++[f]).length=dn.length+1:=gj;have er:(dn++[f]).flatMap nlV=dn.flatMap nlV++nlV f:=by rw[List.flatMap_append];simp
          refine⟨m+1,rA,rc,dn++[f],by go_num,af,?_,?_,gd,AB (λs hs=>(List.mem_append.1 hs).elim (HM.o s) λe=>by rw[BS.1 e];exact aU.o),aW.setCell (p:=gX b5 1) (AD _) _⟩
          .rw[el];exact HO.o.2.set (j:=1) _ rfl
          rw[el,er];exact B6 HO.o.1 (a:=gX b5 1) ay _
         case measure=>simp[intOf];omega
     obtain⟨u0,u1,u2⟩:=X.c3;obtain⟨k0,k1,k2⟩:=X2.c3;obtain⟨q0,q1,q2⟩:=X2.f3;have V:=AB X2;have HO:=AB O;have HT:=AB (dJ.low (dJ.imp hx (Q:=λk=>(P k/\k<w.heap.size)\/w5.heap.size<=k) λk hk hl=>.inl ⟨hk,hl⟩) Z);have:w5.heap.size<=wr.heap.size:=I.size;clear X X1 X2 O aj aI;(go_wp2_with fail);(try simp only[Exit.inBlock,Exit.then]);refine AW (BA (b:=b1+1) rfl _ _ rfl V.o.set3b) rfl ?_;refine⟨⟨x.sA,x.sc,x.ss,uA,uc,dn,x.cur⟩,0,rfl,BV Z (by have:=HB.o;omega),?_,λ_ s hs=>hok.nm s (HM.o s hs)⟩;have ht:dJ wr (λk=>(P k/\k<w.heap.size)\/w5.heap.size<=k) x.sA x.sc x.ss uA uc dn:=⟨HT.o.s,HT.o.si,dM.own HO.o (λk hk _=>.inr hk),λs hs=>HT.o.ni s (HM.o s hs)⟩;exact dJ.imp (dJ.mst ht (Ba (CM _ _ _ _ _)) λk hk e=>by have:=HB.o;rcases hk with hk|hk<;>omega) λk hk _=>hk.imp And.left λq=>by have:=HB.o;omega
theorem S4 (P w A c ls)(hr:Rd w w.heap.size 1 A ls.length c (Fe ls))(hi:∀x∈ls,EnQ w P x.A x.c x.l)(L:List (List En))(hL:L=ls.map λx=>x.l.map El.p)(hsz:L.flatten.length<=1000000):
 Calls prog 34 #[.slice A ls.length c] w (MgQ w P (ES L)):=by
 have aT:ls.length<=9223372036854775807:=by have h3:=hr.le;have h4:=hr.cap;unfold maxLen at h4;omega
 have aU:L.length=ls.length:=by rw[hL,Ae]
 have aB:∀i,L.getD i []=(ls.getD i default).l.map El.p:=λi=>by
  rw[hL,BW,BW,DY];cases ls[i]? <;> rfl
 clear hL;go_enter func34,ntmps34;go_wp2_with fail
 go_loopw [3,4] (λv3 iv wr=>∃(i:Nat) (oA:Option Addr) (oc:Nat) (out:List El),v3 = .slice oA out.length oc/\iv = io i/\i<=ls.length/\ga (out.map El.p=mg (L.take i).flatten)/\wr.ownsRow w.heap.size 97 6 (.slice oA out.length oc) out.length (Ax out)/\(∀y∈out,dM wr (λk=>P k/\k<w.heap.size) 10 y.A y.p.stats.length y.c (BH y.p.stats))/\Below w.heap.size w wr) (λ_ iv _=>ls.length-(intOf iv).toNat);case atStart=>exact⟨0,none,0,[],rfl,rfl,AU _,AB (by simp[mg]),Av _ _ _ _,gj,AC _ _⟩
 case round=>
  obtain⟨i,oA,oc,out,rfl,rfl,aV,I,O,T,Z⟩:=hrel;by_cases aq:i<ls.length
  .obtain⟨lb,lo,rfl,aC,aD⟩:=hr.llA aq;have af:=hi (ls.getD i default) (B9 aq);have ak:=aB i;obtain⟨X,hX⟩:=ia (ls.getD i default);have aa:=aD X hX;rw[hX]at af ak;obtain⟨xl,xA,xc⟩:=X;dsimp only at af ak aa;have ar:(L.take (i+1)).flatten=(L.take i).flatten++xl.map El.p:=by rw[<-ak];exact PO gd
   have aE:=AB ar;have aF:ga (((L.take i).flatten++xl.map El.p).length<=1000000):=AB (by rw[<-ar];exact AS (PP _ _) hsz);obtain⟨Q,hQ⟩:=ib ((L.take i).flatten);rw[<-hQ]at aE aF I;have aR:xl.length<=9223372036854775807:=by have h3:=af.row.rd.le;have h4:=af.row.rd.cap;unfold maxLen at h4;omega
   clear aD hX ak ar hQ;have aW:=Z.size;(go_wp2_with fail);go_loopw [3,5] (λv3 iv wq=>∃(k:Nat) (oA:Option Addr) (oc:Nat) (out:List El),v3 = .slice oA out.length oc/\iv = io k/\k<=xl.length/\ga (out.map El.p=mg (Q++(xl.map El.p).take k))/\wq.ownsRow w.heap.size 97 6 (.slice oA out.length oc) out.length (Ax out)/\(∀y∈out,dM wq (λk=>P k/\k<w.heap.size) 10 y.A y.p.stats.length y.c (BH y.p.stats))/\Below w.heap.size w wq) (λ_ iv _=>xl.length-(intOf iv).toNat);case atStart=>exact⟨0,oA,oc,out,rfl,rfl,AU _,AB (by rw[I.o];simp),O,T,Z⟩
   case round=>
    clear I O T Z;obtain⟨k,oA,oc,out,rfl,rfl,hk,I,O,T,Z⟩:=hrel;have aS:=(Z.cell (p:=gX lb (lo+i)) aC).trans aa;have aX:out.length<=1000000:=by
     have h1:out.length=(mg (Q++(xl.map El.p).take k)).length:=by rw[<-I.o,Ae]
     have h2:=Jf (Q++(xl.map El.p).take k);have h3:=aF.o;rw[AR]at h2 h3;rw[BN]at h2;omega
    by_cases ag:k<xl.length
    .obtain⟨xb,xo,rfl,ab,aG⟩:=af.row.rd.elA ag;have ap:=af.ins (xl.getD k default) (B9 ag);have am:mg (Q++(xl.map El.p).take (k+1))=Ck (mg (Q++(xl.map El.p).take k)) (xl.getD k default).p:=by
      rw[PN (by rw[Ae];exact ag),<-Az,PM,Ht]
     obtain⟨x,hx⟩:=ia (xl.getD k default);have aH:=aG x hx;rw[hx]at ap am;rw[<-I.o]at am;have aI:=AB am;have ae:=Z.size;have aJ:=AB aH;clear aG hx am aH;(go_wp2_with fail);go_loopw [6,7] (λmv jv wz=>∃(j:Nat) (mt:Bool),mv = .bool mt/\jv = io j/\j<=out.length/\ga (mt=Ca (ET (out.take j)) x.p.name)/\Below wr.heap.size wr wz) (λ_ jv _=>out.length-(intOf jv).toNat);case atStart=>exact⟨0,false,rfl,rfl,AU _,AB rfl,AC _ _⟩
     case round=>
      clear aS;obtain⟨j,mt,rfl,rfl,hj,ah,V⟩:=hrel;have G:=Z.trans (V.mono ae);have c1:=(G.cell (p:=gX lb (lo+i)) aC).trans aa;by_cases ai:j<out.length
      .obtain⟨ob,oo,rfl,aY,aK⟩:=(Ay (Ag O V)).elA ai;have hn:=Zz ai x.p.name;obtain⟨y,hy⟩:=ia (out.getD j default);obtain⟨g0,_⟩:=aK y hy;rw[hy]at hn;have HN:=AB hn;have x0:=(G.cell (p:=gX xb (xo+k * 6)) ab).trans aJ.o.1;clear aK hy hn;cases mt with
       | true=>
         (go_upto_region 12 with fail);go_quiet (fail)
         (go_wp2_with fail);go_roundw;case rel=>exact⟨j+1,true,rfl,by go_num,ai,AB (by rw[HN.o,<-ah.o];rfl),CO V _⟩
         case measure=>simp[intOf];omega
       | false=>
         cases aL:(y.p.name.toList==x.p.name.toList)with
         | true=>
           (go_upto_region 12 with fail);go_quiet (fail)
           (go_wp2_with fail);go_roundw;case rel=>exact⟨j+1,true,rfl,by go_num,ai,AB (by rw[HN.o,<-ah.o,aL];rfl),CO V _⟩
           case measure=>simp[intOf];omega
         | false=>
           (go_upto_region 12 with fail);go_quiet (fail)
           (go_wp2_with fail);go_roundw;case rel=>exact⟨j+1,false,rfl,by go_num,ai,AB (by rw[HN.o,<-ah.o,aL];rfl),CO V _⟩
           case measure=>simp[intOf];omega
      have HM:ga (mt=Ca (ET out) x.p.name):=AB (by have:=ah.o;rwa [CF gd]at this);clear ah;cases mt with
      | true=>
        (go_wp2_with fail);go_roundw;case rel=>exact⟨k+1,oA,oc,out,rfl,by go_num,ag,AB (by rw[aI.o];unfold Ck;rw[AJ (show Ca ((out.map El.p).map En.name) x.p.name=true from HM.o.symm)]),Ag O V,λy hy=>(T y hy).lowB (V.mono ae),G⟩
        case measure=>simp[intOf];omega
      | false=>
        obtain⟨q0,q1,q2,q3,q4,q5⟩:=aJ.o;have x0:=(G.cell (p:=gX xb (xo+k * 6)) ab).trans q0;have x1:=(G.cell (p:=gX xb (xo+k * 6+1)) ab).trans q1;have x2:=(G.cell (p:=gX xb (xo+k * 6+2)) ab).trans q2;have x3:=(G.cell (p:=gX xb (xo+k * 6+3)) ab).trans q3;have x4:=(G.cell (p:=gX xb (xo+k * 6+4)) ab).trans q4;have x5:=(G.cell (p:=gX xb (xo+k * 6+5)) ab).trans q5;have au:=hI wr (.cells (elV x).toArray 97);have ao:=Ag (Ag O V) au;have av:Rd (wr.alloc (.cells (elV x).toArray 97)) (wr.heap.size+1) 6 (gY wr.heap.size 0) 1 1 (elV x):=Rd.lit (n:=1) (sz:=6) wr 97 (elV x).toArray rfl gn;have aM:w.heap.size<=wr.heap.size:=AS ae V.size;have aw:w.heap.size<=(wr.alloc (.cells (elV x).toArray 97)).heap.size:=AS aM au.size;have aj:=λy hy=>(T y hy).lowB (V.mono ae);have HB:=AB ((AC w.heap.size wr).alloc aM (.cells (elV x).toArray 97));simp only[elV]at av ao aw;clear q0 q1 q2 q3 q4 q5 au O T V;go_wp2_with (at_builtin;refine Aw _ E4 rfl (.tmp 48) (.tmp 56) rfl w.heap.size _ out.length (Ax out) rfl ao (wr.heap.size+1) _ 1 1 _ rfl av (Fb x) gd aw ?_;intro v8 w8 ad aN _)
        have ax:=Au HB.o (AD _) ao aN aw;have e1:(out++[x]).length=out.length+1:=gj;have e2:Ax (out++[x])=Ax out++elV x:=by simp[Ax]
        obtain⟨g,cap,rfl,_,_⟩:=ad.form gd;have ay:w8.ownsRow w.heap.size 97 6 (.slice (gY g 0) (out++[x]).length cap) (out++[x]).length (Ax (out++[x])):=by rw[e1,e2];exact ad
        have az:∀y∈out++[x],dM w8 (λk=>P k/\k<w.heap.size) 10 y.A y.p.stats.length y.c (BH y.p.stats):=λy hy=>by
         rcases List.mem_append.1 hy with hy|hy
         .exact(aj y hy).lowB ax
         rw[BS.1 hy];exact(ap.imp λk hk hl=>⟨hk,hl⟩).lowB (G.trans ax)
        have aO:=G.trans ax;rw[<-e1];clear ad aN ao av x0 x1 x2 x3 x4 x5 c1 aj;(go_wp2_with fail);go_roundw;case rel=>exact⟨k+1,some ⟨g,0,none⟩,cap,out++[x],rfl,by go_num,ag,AB (by rw[aI.o];unfold Ck;rw[AE (by have:=HM.o;unfold ET at this;rw[<-this];decide),Cv];rfl),ay,az,aO⟩
        case measure=>simp[intOf];omega
    have aP:ga (out.map El.p=mg (L.take (i+1)).flatten):=AB (by rw[I.o,aE.o,CF (by rw[Ae];omega)]);clear I;(go_wp2_with fail);go_roundw;case rel=>exact⟨i+1,oA,oc,out,rfl,by go_num,aq,aP,O,T,Z⟩
    case measure=>simp[intOf];omega
  have aQ:ga (out.map El.p=ES L):=AB (by rw[I.o,CF gd];rfl);go_wp2_with fail
  go_ret;exact⟨Z,oA,oc,out,rfl,aQ.o,dM.own O (λk hk _=>.inr hk),λy hy=>(T y hy).imp λk hk _=>.inl hk.1⟩
theorem eR {w M S D R N rb kb K c tc lc s A tA lA}(h:RefQ w M S D R N rb kb K s A c tA tc lA lc)(db vs)(hd:dH w db (iq rb 0::vs))(f:Nl)(hf:dM w (λk=>¬M k) 1 f.A f.p.ms.length f.c (AY f.p.ms))(hfm:f.p.ms.length<=9)(P)(hP:∀x∈s.kl,EnQ w P x.A x.c x.l):
 Calls prog 175 #[iq db 0,.agg (dO f.p f.A f.c),iq kb 0] w (EnO w P):=by
 have aH:=AB hP;clear hP;have ax:=Af w (.cells (dO f.p f.A f.c) 43);have x1:=AP w (dO f.p f.A f.c) 43;go_enter func175,ntmps175;go_wp2_with fail
 generalize w.alloc _=w1 at *;have H:=gU h hd hf ax x1;have HE:ga (∀(k:Int) (w':World),Below w.heap.size w w'->EnO w P (.returned (.tuple #[ir,io k])) w'):=AB λk w' hb=>⟨none,0,[],k,rfl,hb,SC _ _,gj,gj⟩;have aq:w.heap.size<w1.heap.size:=x1.z;clear h hd hf ax x1;go_loopw [8,9] (λv8 iv wr=>∃(i:Nat) (oA:Option Addr) (oc:Nat) (out:List Ll),v8 = .slice oA out.length oc/\iv = io i/\i<=f.p.ms.length/\out.length<=i/\wr.ownsRow w1.heap.size 46 1 (.slice oA out.length oc) out.length (out.flatMap llV)/\ga (∀x∈out,x∈s.kl)/\Below w1.heap.size w1 wr) (λ_ iv _=>f.p.ms.length-(intOf iv).toNat);case atStart=>exact⟨0,none,0,[],rfl,rfl,AU _,AU _,Av _ _ _ _,AB (λx hx=>by cases hx),AC _ _⟩
 case round=>
  obtain⟨i,oA,oc,out,rfl,rfl,hi,aa,G,HI,ag⟩:=hrel;have T:=H.o.2.2.2.1.trans (ag.mono (Ad aq));have X:=H.o.2.2.2.2.keep ag aq;have x6:=X.cell 6 _ rfl;by_cases ar:i<f.p.ms.length
  .obtain⟨mb,mo,ay,aT,az⟩:=(H.o.2.2.1.low T).rd.at_ gd;obtain⟨nm,aB⟩:∃nm,f.p.ms[i]? = some nm:=⟨_,BF ar⟩;have au:=az i (.string nm) (by unfold AY;rw[DY,aB];rfl);have d0:=(H.o.2.1.keep T H.o.2.1.z).cell 0 _ rfl;have hR:=(H.o.1.low T).st.mst (N:=λ_=>False) (dI.refl _ wr).drew λ_ q=>q.elim;rw[ay]at x6;have HK:=gR G T;clear X az ay G aB;(go_upto_region 5 with fail);refine wp_region_held_drew (S:=λw'=>w'.cell? (gX db 0)=some (iq rb 0)/\w'.cell? (gX w.heap.size 6)=some (.slice (gY mb mo) f.p.ms.length f.c)/\w'.cell? (gX mb (mo+i))=some (.string nm)) gh ?_ (λhHeld=>?_)
   .exact⟨d0,x6,au⟩
   refine tK 0 ?_;refine tK 1 ?_;refine tK 2 ?_;refine tK 3 ?_;refine tK 4 ?_;refine tK 5 ?_;refine tK 6 ?_;refine tK 7 ?_;refine tK 8 ?_;refine rD 9 λK0 aC=>?_;go_simp;go_at_call 65;refine(Ru hR nm).mono ?_;rintro e w2 ⟨B,k,l,er,rfl,hgB,rfl,_⟩;refine aC.out _ _ ⟨d0,x6,au⟩ (λhHeld=>?_);clear aC K0;refine tK 10 ?_;refine tK 11 ?_;refine tK 12 ?_;refine tK 13 ?_;refine tK 14 ?_;refine wpAnyH_done gh ?_ _;have ah:Below wr.heap.size wr wr.drew:=(AC _ _).drew;have aI:ga (dM w (λk=>¬M k/\k<w.heap.size) 1 B l.length k (AO l)):=AB ((H.o.1.st.got hgB).imp λk hk hl=>⟨hk,hl⟩);clear hgB;have G:=Ag HK.o.1 ah;have aD:=Ah HK.o.2 ah;have aE:=Ah ag ah;clear d0 x6 au hR HK ah ag hHeld;generalize wr.drew=w2 at *;by_cases h0:er=0
   .subst h0;(go_wp2_with fail);go_loopw [8,12,13] (λv8 aJ av wq=>∃(oA:Option Addr) (oc:Nat) (out:List Ll) (j:Nat) (fd:Bool),v8 = .slice oA out.length oc/\aJ = .bool fd/\av = io j/\j<=s.kl.length/\out.length<=i+fd.toNat/\wq.ownsRow w1.heap.size 46 1 (.slice oA out.length oc) out.length (out.flatMap llV)/\ga (∀x∈out,x∈s.kl)/\Below w1.heap.size w1 wq) (λ_ _ av _=>s.kl.length-(intOf av).toNat);case atStart=>exact⟨oA,oc,out,0,false,rfl,rfl,rfl,AU _,by simpa using aa,G,HI,aE⟩
    case round=>
     clear G HI aa;obtain⟨oA,oc,out,j,fd,rfl,rfl,rfl,hj,aa,G,HI,ai⟩:=hrel;have V:=H.o.2.2.2.1.trans (ai.mono (Ad aq));have Z:=ai;have I:=(H.o.1.low V).kn;have c1:=I.bx.cell 1 _ rfl;have aR:s.kl.length<=9223372036854775807:=by have h1:=(Ay I.lrow).le;have h2:=(Ay I.lrow).cap;unfold maxLen at h2;omega
     by_cases aj:j<s.kl.length
     .cases fd with
      | true=>
        clear I;(go_wp2_with fail);go_roundw;case rel=>exact⟨i+1,oA,oc,out,rfl,by go_num,ar,aa,G,HI,Z⟩
        case measure=>simp[intOf];omega
      | false=>
        obtain⟨lb,lo,aF,aK,aG⟩:=Rd.llA (l:=s.kl) (Ay I.lrow) aj;have ad:=B9 aj;generalize s.kl.getD j default=x at *;have hx:=I.lin x ad;have l0:=aG x rfl;rw[aF]at c1;have hw:=Rt wr x.A x.c x.l hx.1.en λy hy=>(MT hx.2).2 _ (CG.2 ⟨y,hy,rfl⟩);have HX:=gR ad hx.2;clear I aG hx ad aF;(go_wp2_with fail);refine hw.mono ?_;rintro e w5 ⟨O,hcs⟩;rcases hcs with ⟨_,v,rfl,ab⟩|⟨q,_⟩
        .obtain⟨B5,k5,rfl⟩:=BK ab;have aL:=Eb (P:=prog) w5 underlying55 underlying5 underlying9 (Ay ab);have aM:=Eb (P:=prog) w5 underlying55 underlying5 underlying9 (aI.o.lowB (Ah V O)).rd;have k1:=(O.cell (p:=gX kb 1) (H.o.1.low V).kn.bx.z).trans c1;have l1:=(O.cell (p:=gX lb (lo+j)) aK).trans l0;have ae:=Ag G O;have ap:=Ah ai O;have aN:w1.heap.size<=w5.heap.size:=AS Z.size O.size;have aU:=AB Z;clear ab hw c1 l0 G ai O Z V;(go_upto_region 13 with fail);go_cut [71] from 63 to 71 (λv wx=>∃b,v = .bool b/\w5=wx);case first=>
          (go_wp2_with fail);go_meet;exact⟨_,rfl,rfl⟩
         case rest=>
         obtain⟨eb,rfl,aO⟩:=hcut;subst aO;clear aL aM;cases eb with
         | false=>
           (go_wp2_with fail);go_roundw;case rel=>exact⟨oA,oc,out,j+1,false,rfl,rfl,by go_num,aj,aa,ae,HI,ap⟩
           case measure=>simp[intOf];omega
         | true=>
           have aS:out.length<=i:=by simpa using aa
           go_wp2_with (at_builtin;refine FO (enc:=llV) Le rfl (.tmp 72) (.tmp 80) rfl ae aN x PL (λu hu=>by rw[BS.1 hu];rfl) rfl rfl gd ?_;intro g c2 w8 h1 h2 _)
           go_roundw;case rel=>exact⟨some ⟨g,0,none⟩,c2,out++[x],j+1,true,by rw[AR];rfl,rfl,by go_num,aj,gt,h1,AB (λy hy=>(List.mem_append.1 hy).elim (HI.o y) λe=>by rw[BS.1 e];exact HX.o.1),ap.trans h2⟩
           case measure=>simp[intOf];omega
        exact absurd HX.o.2 q
     cases fd with
     | true=>
       clear I;(go_wp2_with fail);go_roundw;case rel=>exact⟨i+1,oA,oc,out,rfl,by go_num,ar,aa,G,HI,Z⟩
       case measure=>simp[intOf];omega
     | false=>
       clear I;(go_wp2_with fail);go_ret2;exact HE.o 101 wr V
   have t1:(er != 0)=true:=by rw[Am];exact h0
   (go_wp2_with fail);go_ret2;exact HE.o er w2 aD
  have I:=(H.o.1.low T).kn;have ak:∀x∈out,EnQ wr P x.A x.c x.l/\BR (x.l.map El.p)=0:=λx hx=>⟨(aH.o x (HI.o x hx)).low T,(I.lin x (HI.o x hx)).2⟩;obtain⟨L,hL⟩:=ib (out.map λx=>x.l.map El.p);have aw:L.flatten.length<=64 * out.length:=by
   have:=SD (k:=64) L λy hy=>by
    rw[hL]at hy;obtain⟨x,hx,rfl⟩:=CG.1 hy;exact(MT (ak x hx).2).1
   rw[hL,Ae]at this;rw[hL];exact this
  have am:∀z∈ES L,z.name.size<=9223372036854775807:=λz hz=>by
   rcases SB _ _ z hz with q|q
   .cases q
   obtain⟨y,hy,aP⟩:=List.mem_flatten.1 q;rw[hL]at hy;obtain⟨x,hx,rfl⟩:=CG.1 hy;exact(MT (ak x hx).2).2 z aP
  have hg:=S4 P wr oA oc out (Ay G) (λx hx=>(ak x hx).1) L hL gd;have HM:=gS am aw T;clear hL am aw ak I G X HI;go_wp2_with fail
  refine hg.mono ?_;rintro e w5 ⟨O,A5,c5,o5,rfl,af,ao⟩;have H5:=gS O af ao;clear O af ao hg x6;go_wp2_with fail
  go_ret2;obtain⟨O,af,ao⟩:=H5.o;obtain⟨am,aw,T⟩:=HM.o;have aQ:o5.length=(ES L).length:=by rw[<-af,Ae]
  have h2:=Jf L.flatten;exact⟨A5,c5,o5,0,rfl,Ah T O,ao.imp λk hk _=>hk.imp id λq=>AS T.size q,by rw[aQ];exact AS h2 gd,λx hx=>am _ (by rw[<-af];exact CG.2 ⟨x,hx,rfl⟩)⟩
