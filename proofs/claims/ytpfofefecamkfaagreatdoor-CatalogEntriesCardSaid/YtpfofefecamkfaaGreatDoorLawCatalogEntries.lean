/- CatalogEntries: for every input the law returns true, and what was there is as it was: the card. -/
import Derived.Test.YtpfofefecamkfaaGreatDoorCards
import Derived.Test.YtpfofefecamkfaaGreatDoorTie
import Derived.Deep.DeepHandedRow
import Derived.Test.YtpfofefecamkfaaGreatDoorZ25
import Derived.Test.YtpfofefecamkfaaGreatDoorZ26
import Derived.Test.YtpfofefecamkfaaGreatDoorJ3CatalogEntries
namespace Go.Proofs.YtpfofefecamkfaaGreatDoor.catalogEntries
set_option maxRecDepth 100000
open Go.Proofs.YtpfofefecamkfaaGreatDoor
set_option maxHeartbeats 16000000
set_option linter.all false
open Go.ChangeShapes Go.WideShapes Go.ChangeAt Go.RowKit
open Go.ChangeMaps (open_string shut_string)
theorem own:ownKnob Tryz.prog.godebug=none:=gh
theorem Sg:laidOutB Tryz.prog=true:=gh
theorem fe {W}(h:laidMetH Tryz.prog Rows.catalogEntriesRow.laid W):Tabs W:=YH h
def Gu (d:Dr) (l:List El):List El:=l.filter λx=>!DO d.drops x.p.name
def Gv (d:Dr) (q:UInt64) (x:El):El:=if d.rew=true then x else { x with p:=Id q x.p }
theorem fg (d q)(old al:List El)(h:al.map El.p=d.adds):(Gu d old++al.map (Gv d q)).map El.p=I3 q d (old.map El.p):=by
 unfold I3 Gu;rw[Cv,<-h,List.filter_map,List.map_map,List.map_map];congr 1;refine List.map_congr_left λx _=>?_;unfold Gv;simp only[Function.comp];split
 .rfl
 rfl
theorem fh {d}{old:List El}{i x}(hi:i<old.length)(hx:old.getD i default=x):Gu d (old.take (i+1))=Gu d (old.take i)++(if DO d.drops x.p.name=true then [] else [x]):=by
 unfold Gu;rw[Cn,BF hi,List.filter_append];congr 1;have e:old[i]=x:=by rw[<-hx,BW,BF hi];rfl
 show List.filter _ [old[i]]=_;rw[e];cases hb:DO d.drops x.p.name with
 | true=>simp[hb]
 | false=>simp[hb]
theorem fj {l:List ByteArray}{n m j}(hj:l[j]? = some m):DO (l.take (j+1)) n=(DO (l.take j) n||(m.toList==n.toList)):=by
 unfold DO;rw[Cn,hj,List.any_append];congr 1;simp only[Option.toList_some,List.any_cons,List.any_nil,Bool.or_false];exact BEq.comm
theorem fk {w B n c A l}(h:Rd w B 14 A n c (MX l)){i}(hi:i<l.length)(hn:n=l.length){o}(ho:l.getD i default=o):∃b off,A=some ⟨b,off,none⟩/\b<B/\∀j u,(Fk o)[j]? = some u->w.cell? (gX b (off+i * 14+j))=some u:=by
 obtain⟨b,off,e,hb,hc⟩:=Rd.el Fk 14 MW h hi gd;rw[ho]at hc;exact⟨b,off,e,hb,hc⟩
theorem fm (s:So){t}(h:t.ok)(id):(s.entriesAt t id).1.length<=576:=by
 unfold So.entriesAt;split
 .have:=Qb s (t.at_ id).ms;have:=(RR h id).1;omega
 exact AU _
theorem fp (w)(ht:Tabs w)(A c l)(hr:Rd w w.heap.size 14 A l.length c (MX l))(hi:∀o∈l,OpQ0 w o)(d)(hd:DlR w d):
 Calls Tryz.prog 7 #[.slice A l.length c,.agg (dlV d).toArray] w λe w'=>e = .returned (.bool true)/\Below w.heap.size w w':=by
 show Calls _ _ #[.slice A l.length c,.agg (dRV d.d d.fA d.fc d.aA d.al.length d.ac d.dA d.dc)] w _;have cB:l.length<=9223372036854775807:=by have h1:=hr.le;have h2:=hr.cap;unfold maxLen at h2;omega
 have yD:=AP w (dRV d.d d.fA d.fc d.aA d.al.length d.ac d.dA d.dc) 48;have aN:=Af w (.cells (dRV d.d d.fA d.fc d.aA d.al.length d.ac d.dA d.dc) 48);have HR:=AB hr;have HI:=AB hi;have bi:=AB hd;have H0:=gS (ht.low aN) yD aN;clear hr hi ht hd yD aN;go_enter Tryz.func7,Tryz.ntmps7;go_upto_region 1 with fail
 generalize w.alloc _=w0 at *;obtain⟨b3,ad⟩:∃b,b=w.heap.size:=⟨_,rfl⟩;rw[<-ad];have H3:ga (dH w0 b3 (dRV d.d d.fA d.fc d.aA d.al.length d.ac d.dA d.dc).toList/\w.heap.size<=b3):=AB ⟨H0.o.2.1.at_ ad.symm,gd⟩;clear ad;have aO:=fT w0 H0.o.1;go_wp2_with fail
 refine aO.mono ?_;rintro e w1 ⟨rfl,aq⟩;clear aO;have bj:=fX w1 (H0.o.1.low aq);have H1:=gS aq (H3.o.1.keep aq H3.o.1.z) (Ah H0.o.2.2 aq);clear aq;go_wp2_with fail
 refine bj.mono ?_;rintro e w2 ⟨bb,sb,mb,rb,kb,c0,c1,d0,d1,rfl,aP,yB,m2⟩;clear bj;obtain⟨X,hX⟩:∃X:Nat->Prop,X=λk=>k<w1.heap.size\/k=bb:=⟨_,rfl⟩;have HX:ga (∀k,k<w1.heap.size->X k):=AB λk q=>by rw[hX];exact .inl q
 have aQ:ga (X bb):=AB (by rw[hX];exact .inr rfl);have bk:w.heap.size<=w1.heap.size:=H1.o.2.2.size;have aR:ga (dI (λk=>w.heap.size<=k) w w2):=AB ((dI.of H1.o.2.2).trans (m2.imp λk _ q=>AS bk q));have y3:=m2.box H1.o.2.1 λq=>by have:=H1.o.2.1.z;omega
 rw[<-hX]at aP;have aS:ga (∀k,k<w.heap.size->X k):=AB λk q=>HX.o k gd;have aT:ga (X b3):=AB (HX.o b3 H1.o.2.1.z);have H2:=gS aP yB y3;obtain⟨p0,p1,p2,p3,p4,p5⟩:=y3.c6;clear hX aP yB m2 y3 bk;have hg:Calls Tryz.prog 16 #[.agg #[.int .u8 0,.bool false,.bool d.d.rew,.slice d.fA d.d.fs.length d.fc,.slice d.aA d.al.length d.ac,.slice d.dA d.d.drops.length d.dc,.int .u64 d.d.off.toNat,.int .u64 d.d.tim.toNat,.string ⟨#[]⟩,.int .u8 0,.slice none 0 0,.slice none 0 0,.int .i64 0,.slice none 0 0]] w2 (MV w2 d.op):=SL w2 _ d.op (bi.o.opq aR.o);go_wp2_with fail
 refine hg.mono ?_;rintro e w3 ⟨g,rfl,ag,ad⟩;clear hg p0 p1 p2 p3 p4 p5;have bl:=AB (aR.o.trans (.of ad));have H4:=gS (H2.o.1.low ad (λk q=>.inl q) (AD _)) (H2.o.2.1.keep ad H2.o.2.1.z) (H2.o.2.2.keep ad H2.o.2.2.z);have aB:=AB ag;clear ag ad H2 H1 H0 H3;cases g with
 | true=>
   (go_wp2_with fail);go_ret;exact⟨rfl,bl.o.below (λk hk=>hk) (AD _)⟩
 | false=>
 have aU:=AB (aB.o rfl);clear aB aR;go_upto_region 6 with fail
 go_wp2_with fail
 go_loopw [7] (λiv wr=>∃k:Nat,iv = .int .i64 k/\k<=25/\k<=l.length/\ga (Bc wr X sb mb rb kb c0 c1 d0 d1 (8+24 * k)/\dI (λk=>¬X k) w3 wr)) (λiv _=>l.length-(intOf iv).toNat);case atStart=>exact⟨0,rfl,gd,gd,AB ⟨H4.o.1,.refl _ _⟩⟩
 case round=>
 obtain⟨k,rfl,cC,cj,aj⟩:=hrel;go_upto_region 7 with fail
 obtain⟨z,hz⟩:=ia (decide (k<l.length/\k<25));have HZ:=AB hz;clear hz;go_cut [44] from 37 to 44 (λv wx=>v = .bool z/\wr=wx);case first=>
  by_cases h1:k<l.length
  .have y1:=gG k l.length;by_cases h2:k<25
   .have y2:=gG k 25;have HQ:=AB (AF (And.intro h1 h2));go_wp2_with fail
    all_goals (go_meet;exact⟨by rw[<-HZ.o,HQ.o],rfl⟩)
   have y2:=gH k 25;have HQ:=AB (AG (p:=k<l.length/\k<25) λq=>h2 q.2);go_wp2_with fail
   all_goals (go_meet;exact⟨by rw[<-HZ.o,HQ.o],rfl⟩)
  have y1:=gH k l.length;have HQ:=AB (AG (p:=k<l.length/\k<25) λq=>h1 q.1);go_wp2_with fail
  all_goals (go_meet;exact⟨by rw[<-HZ.o,HQ.o],rfl⟩)
 case rest=>
 obtain⟨rfl,hw⟩:=hcut;subst hw;have aC:=AB (bl.o.trans (aj.o.2.imp (N:=λk=>w.heap.size<=k) λj _ q=>Nat.le_of_not_lt λe=>q (aS.o j e)));cases z with
 | true=>
   have T:=of_decide_eq_true HZ.o;obtain⟨o,ho⟩:=ia (l.getD k default);have aV:o∈l:=by rw[<-ho,BW,BF T.1];exact List.getElem_mem T.1
   obtain⟨b,off,hA,bm,ah⟩:=fk HR.o T.1 rfl ho;have bn:∀W,dI (λk=>w.heap.size<=k) w W->∀j u,(Fk o)[j]? = some u->W.cell? (gX b (off+k * 14+j))=some u:=λW m j u hj=>(m.cell (p:=gX b (off+k * 14+j)) bm (by show ¬w.heap.size<=b;omega)).trans (ah j u hj);have HK:=AB bn;have ck:=AB aV;have bo:=AB T;have bp:k<l.length:=T.1;subst hA;clear ho aV ah bn T bm;have xx:=HK.o wr aC.o;have x0:=xx 0 _ rfl;have x1:=xx 1 _ rfl;have x2:=xx 2 _ rfl;have x3:=xx 3 _ rfl;have x4:=xx 4 _ rfl;have x5:=xx 5 _ rfl;have x6:=xx 6 _ rfl;have x7:=xx 7 _ rfl;have x8:=xx 8 _ rfl;have x9:=xx 9 _ rfl;have aW:=xx 10 _ rfl;have aX:=xx 11 _ rfl;have aY:=xx 12 _ rfl;have aZ:=xx 13 _ rfl;rw[Nat.add_zero]at x0;clear xx;have bq:∀W,dI (λk=>w.heap.size<=k) w W->OpQ W X o:=λW m=>by
    have q:=HI.o o ck.o;have e:∀k,(k<w.heap.size)->k<W.heap.size->X k:=λk h _=>aS.o k h;exact⟨(m.lowR q.f).imp e,(m.lowE q.a).imp e,q.e,(m.lowR q.dr).imp e,(m.lowR q.i).imp e,(m.lowR q.b).imp e,(m.lowR q.k).imp e,q.n0,q.n1,q.nm⟩
   have bu:=AB bq;clear bq;have hg:Calls Tryz.prog 16 #[.agg #[.int .u8 o.kind.toNat,.bool o.who,.bool o.d.rew,.slice o.fA o.d.fs.length o.fc,.slice o.aA o.al.length o.ac,.slice o.dA o.d.drops.length o.dc,.int .u64 o.d.off.toNat,.int .u64 o.d.tim.toNat,.string o.nm,.int .u8 o.shape.toNat,.slice o.iA o.ids.length o.ic,.slice o.bA o.bs.length o.bc,.int .i64 o.n,.slice o.kA o.keep.length o.kc]] wr (MV wr o):=SL wr _ o (bu.o wr aC.o);(go_wp2_with fail);refine hg.mono ?_;rintro e w4 ⟨g,rfl,ag,hb4⟩;clear hg;clear x0 x1 x2 x3 x4 x5 x6 x7 x8 x9 aW aX aY aZ;have aB:=AB ag;have a0:=AB (aC.o.trans (.of hb4));have bv:=aj.o.1.low hb4 (λk q=>.inl q) (AD _);have ar:=gR bv (aj.o.2.trans (.of hb4));clear ag hb4 bv;cases g with
   | true=>
     (go_wp2_with fail);go_ret;exact⟨rfl,a0.o.below (λk hk=>hk) (AD _)⟩
   | false=>
   have xx:=HK.o w4 a0.o;have x0:=xx 0 _ rfl;have x1:=xx 1 _ rfl;have x2:=xx 2 _ rfl;have x3:=xx 3 _ rfl;have x4:=xx 4 _ rfl;have x5:=xx 5 _ rfl;have x6:=xx 6 _ rfl;have x7:=xx 7 _ rfl;have x8:=xx 8 _ rfl;have x9:=xx 9 _ rfl;have aW:=xx 10 _ rfl;have aX:=xx 11 _ rfl;have aY:=xx 12 _ rfl;have aZ:=xx 13 _ rfl;rw[Nat.add_zero]at x0;clear xx;by_cases a1:o.kind.toNat % 10<6
   .have t6:decide ((o.kind.toNat:Int) % 10<6)=true:=AF gd;have bw:=fM ar.o.1 gd bb (ar.o.2.box H4.o.2.1 λq=>q aQ.o) aQ.o o (bu.o w4 a0.o) (aB.o rfl) a1;clear a1;(go_wp2_with fail);refine bw.mono ?_;rintro e w5 ⟨hbe,hBo⟩;obtain⟨b5,rfl⟩:=hbe;clear bw;clear x0 x1 x2 x3 x4 x5 x6 x7 x8 x9 aW aX aY aZ;have HF:=gR (hBo.1.low (AC _ _) (λk q=>.inl q) (K2:=8+24 * (k+1)) gd) (ar.o.2.trans hBo.2);clear hBo;(go_wp2_with fail);go_roundw;case rel=>exact⟨k+1,by go_num,by have:=bo.o.2;omega,bp,HF⟩
    case measure=>simp[intOf];omega
   have t6:decide ((o.kind.toNat:Int) % 10<6)=false:=AG gd;have HF:=gR (ar.o.1.low (AC _ _) (λk q=>.inl q) (K2:=8+24 * (k+1)) gd) ar.o.2;clear a1;(go_wp2_with fail);go_roundw;case rel=>exact⟨k+1,by go_num,by have:=bo.o.2;omega,bp,HF⟩
   case measure=>simp[intOf];omega
 | false=>
 clear HZ;obtain⟨M,S,D,s,ca,cb,rs,xk,cE,x2,nm2,hB⟩:=aj.o.1;obtain⟨t,bB,bC,bD⟩:=KA hB.snd ca;have a2:Calls Tryz.prog 14 #[.pointer (gY c0 0)] wr λe w'=>e = .returned (.int .i64 0)/\Env M w' sb mb (8+24 * k) s/\An w' (λk=>¬M k) c0 sb ⟨t,s.cell⟩/\dI (λk=>k=c0) wr w':=by
  have h:=Jp M wr sb mb c0 (8+24 * k) s hB.E ca hB.C hB.mc.1 hB.ne.1 hB.ne.2.1;rw[bB]at h;exact h
 have HN:ga (M c0/\c0≠sb/\c0≠mb/\M sb/\M mb):=AB ⟨hB.mc.1,hB.ne.1,hB.ne.2.1,hB.E.m1,hB.E.m2⟩;have bE:ga (∀k,X k->¬M k):=AB λk q=>(hB.hX k q).2;have ap:ga (∀k,M k->w.heap.size<=k):=AB λk q=>Nat.le_of_not_lt λe=>(hB.hX k (aS.o k e)).2 q;have ab:=gS hB.snd bC bD;have bF:=aj.o.2.box H4.o.2.1 λq=>q aQ.o;have bG:=aj.o.2.box H4.o.2.2 λq=>q aT.o;have g2:=bF.cell 2 _ rfl;have cn:=AB bG;have bH:8+24 * k<=700000:=gd;clear hB bB bC bD bF bG aj HI HR;obtain⟨K,hK⟩:=ia (8+24 * k);rw[hK]at a2 bH;clear hK;go_wp2_with fail
 refine a2.mono ?_;rintro e w5 ⟨rfl,bI,a3,m5⟩;clear a2 g2;have bJ:=Wl (λk=>¬M k) w5 sb c0 ⟨t,s.cell⟩ a3 ab.o.2.1;have H5:=gT bI a3 (m5.box cn.o λq=>bE.o b3 aT.o (by rw[q];exact HN.o.1)) (aC.o.trans (m5.imp λk _ q=>ap.o k (by rw[q];exact HN.o.1)));clear bI a3 m5;go_wp2_with fail
 refine bJ.mono ?_;rintro e w6 ⟨sA,sc,ss,nA,nc,ns,rfl,_,_,_,hb6⟩;have O:=Af w6 (.cells (dP sA ss.length sc nA ns.length nc t.cur.toNat) 39);have au:=AP w6 (dP sA ss.length sc nA ns.length nc t.cur.toNat) 39;have ai:=Ah hb6 O;have H7:=gU (H5.o.1.low ai) (H5.o.2.1.low ai) (H5.o.2.2.1.keep ai H5.o.2.2.1.z) (H5.o.2.2.2.trans (.of ai)) au;clear hb6 O au ai bJ H5;go_upto_region 18 with fail
 generalize w6.alloc _=w7 at *;generalize w6.heap.size=b10 at *;have c2:=H7.o.2.2.2.2.cell 2 _ rfl;have ak:=RS M w7 sb mb c0 K s H7.o.1 HN.o.1 ⟨t,s.cell⟩ H7.o.2.1 ab.o.2.1 t.cur;obtain⟨aa,_,_⟩:=RY ab.o.1.firm.calm.dead ab.o.2.1 ab.o.2.2;obtain⟨bK,er,aD⟩:∃a b,s.entriesAt t t.cur=(a,b):=⟨_,_,rfl⟩;rw[aD]at ak aa;have bL:=AB aD;have a4:ga (bK.length<=576):=AB (by have h:=fm s ab.o.2.1 t.cur;rw[aD]at h;exact h);clear aD;go_wp2_with fail
 refine ak.mono ?_;rintro e w8 ⟨eA,ek,old,rfl,I,hold,hb8⟩;clear ak c2;dsimp only at hold aa;have H8:=gV (H7.o.1.low hb8) (H7.o.2.1.low hb8) (H7.o.2.2.1.keep hb8 H7.o.2.2.1.z) (H7.o.2.2.2.1.trans (.of hb8)) (EnQ.own (P:=λk=>¬M k) I λk hk _ q=>by have:=H7.o.1.lt k q;omega) hold;have au:=H7.o.2.2.2.2.keep hb8 H7.o.2.2.2.2.z;have c2:=au.cell 2 _ rfl;clear I hold hb8 au H7;go_upto_region 19 with fail
 go_cut [88] from 83 to 88 (λv wx=>v = .bool false/\w8=wx);case first=>
  by_cases h0:0<t.cur.toNat
  .have t1:((er:Int)==0)=true:=by rw[Ap];have:=aa.2 h0;omega
   have t2:=gG 0 t.cur.toNat;clear aa;(go_wp2_with fail);go_meet;exact⟨rfl,rfl⟩
  have t1:((er:Int)==0)=false:=by rw[AQ];intro e;exact h0 (aa.1 gd)
  have t2:=gH 0 t.cur.toNat;clear aa;go_wp2_with fail
  go_meet;exact⟨rfl,rfl⟩
 case rest=>
 obtain⟨rfl,hw⟩:=hcut;subst hw;clear c2 aa;obtain⟨p0,p1,p2,p3,p4,p5⟩:=H8.o.2.2.1.c6;have a5:=bi.o.drq H8.o.2.2.2.1 ap.o (by have:=aU.o.a;show d.al.length<=_;have:d.op.al.length=d.al.length:=rfl;omega) (by have:=aU.o.d;show d.d.drops.length<=_;have:d.op.d.drops.length=d.d.drops.length:=rfl;omega);have a6:=Ii M w8 sb mb c0 K s H8.o.1 gd ⟨t,s.cell⟩ H8.o.2.1 ab.o.2.1 HN.o.1 HN.o.2.1 HN.o.2.2.1 d.d d.fA d.fc d.aA d.ac d.al d.dA d.dc a5;obtain⟨r,hr⟩:=ia (BP (BB d.d) 3 s ⟨t,s.cell⟩);rw[hr]at a6;have bM:=AB λh0=>ZF ab.o.1 ab.o.2.1 ab.o.2.2 hr h0;have bN:=AB a5;clear hr a5;go_wp2_with fail
 refine a6.mono ?_;intro e w9 a7;clear a6 p0 p1 p2 p3 p4 p5;have bO:∀k,Mc sb mb c0 k->M k:=λk q=>by
  rcases q with q|q|q
  .rw[q];exact HN.o.2.2.2.1
  .rw[q];exact HN.o.2.2.2.2
  rw[q];exact HN.o.1
 have a8:=AB bO;clear bO;by_cases he:r.e=0;rotate_left 1
 .obtain⟨co,aG⟩:∃e,r.e=e:=⟨_,rfl⟩;obtain⟨rfl,_,_,_,m9⟩:=Sf a7 rfl aG gd;have O:=Af w9 (.cells Aj 43);have V:=AP w9 Aj 43;have cp:=AB ((H8.o.2.2.2.1.trans (m9.imp λk _ q=>ap.o k (a8.o k q))).trans (.of O));have t1:=gM co 0;clear a7 m9 O aG he;go_upto_region 22 with fail
  generalize w9.alloc _=w10 at *;generalize w9.heap.size=b13 at *;obtain⟨q0,q1,q2,q3,q4,q5,q6⟩:=V.c7;have ag:Calls Tryz.prog 32 #[.agg Aj,.agg Aj] w10 λe w'=>e = .returned (.bool true)/\Below w10.heap.size w10 w':=(Rk w10 default default none none 0 0 (.nil _ _ _) (.nil _ _ _)).mono λe w' q=>⟨by rw[q.1,show I4 default default=true by decide +kernel],q.2⟩;clear V;go_wp2_with fail
  refine ag.mono ?_;rintro e w11 ⟨rfl,hb11⟩;have bP:=AB (cp.o.trans (.of hb11));clear hb11 ag q0 q1 q2 q3 q4 q5 q6;go_wp2_with fail
  go_ret;exact⟨rfl,bP.o.below (λk hk=>hk) (AD _)⟩
 have t1:((r.e:Int) != 0)=false:=by rw[he];rfl
 obtain⟨v0,v1,v2,v3,v4,v5,v6,rfl,bQ,bR,aH,m9,_,av⟩:=a7;obtain⟨mA,mc,hv,_⟩:=av he;rw[he]at t1;obtain⟨aE,_⟩:=bM.o he;rw[bL.o]at aE;dsimp only at aE;rw[hv,he];have O:=Af w9 (.cells (dO r.n mA mc) 43);have V:=AP w9 (dO r.n mA mc) 43;have aw:dI (λk=>M k) w8 (w9.alloc (.cells (dO r.n mA mc) 43)):=(m9.imp λk _ q=>a8.o k q).trans (.of O);have H9:=AB (And.intro (bQ.low O) (And.intro (bR.low O) (And.intro aH (And.intro (aw.box H8.o.2.2.1 λq=>bE.o b3 aT.o q) (And.intro (H8.o.2.2.2.1.trans (aw.imp λk _ q=>ap.o k q)) (And.intro (H8.o.2.2.2.2.1.mst aw λk hk q=>hk q) (And.intro (bN.o.mst aw λk hk q=>hk q) (And.intro V (And.intro aE H8.o.2.2.2.2.2)))))))));clear bQ bR aH m9 O V aw aE hv av he bM H8 bN bL a8;go_upto_region 22 with fail
 generalize w9.alloc _=w10 at *;generalize w9.heap.size=b13 at *;have aV:old.length<=1000000:=by
  have h1:=congrArg List.length H9.o.2.2.2.2.2.2.2.2.2;rw[Ae]at h1;have h2:=a4.o;omega
 have aO:d.al.length<=1000000:=H9.o.2.2.2.2.2.2.1.an;have cF:d.d.drops.length<=1000000:=H9.o.2.2.2.2.2.2.1.dn;go_upto_region 24 with fail
 clear t1;go_wp2_with fail
 go_loopw [15,16] (λa9 iv wr=>∃(i:Nat) (oA:Option Addr) (oc:Nat) (out:List El),a9 = .slice oA out.length oc/\iv = .int .i64 i/\i<=old.length/\out.length<=i/\wr.ownsRow w10.heap.size 97 6 (.slice oA out.length oc) out.length (out.flatMap elV)/\ga (out=Gu d.d (old.take i))/\Below w10.heap.size w10 wr) (λ_ iv _=>old.length-(intOf iv).toNat);case atStart=>exact⟨0,none,0,[],rfl,rfl,AU _,AU _,Av _ _ _ _,AB rfl,AC _ _⟩
 case round=>
 obtain⟨i,oA,oc,out,rfl,rfl,hi,bS,I,HO,G⟩:=hrel;by_cases T:i<old.length
 .obtain⟨xb,xo,rfl,ae,ah⟩:=(H9.o.2.2.2.2.2.1.low G).row.rd.elA T;obtain⟨x0,am⟩:∃v,old.getD i default=v:=⟨_,rfl⟩;have bT:=AB (ah x0 am);have bU:=AB (fh (d:=d.d) T am);have cG:ga (w10.heap.size<=wr.heap.size):=AB G.size;clear ah am;go_wp2_with fail
  go_loopw [17,18] (λgv jv wq=>∃(j:Nat) (gb:Bool),gv = .bool gb/\jv = .int .i64 j/\j<=d.d.drops.length/\ga (gb=DO (d.d.drops.take j) x0.p.name)/\Below wr.heap.size wr wq) (λ_ jv _=>d.d.drops.length-(intOf jv).toNat);case atStart=>exact⟨0,false,rfl,rfl,AU _,AB rfl,AC _ _⟩
  case round=>
  obtain⟨j,gb,rfl,rfl,hj,HG,Z⟩:=hrel;have bV:=Ah G Z;have e3:=(H9.o.2.2.2.1.keep bV H9.o.2.2.2.1.z).cell 3 _ rfl;clear bV;by_cases bW:j<d.d.drops.length
  .obtain⟨cH,so,bX,cI,bY⟩:=(((H9.o.2.2.2.2.2.2.1.dr.low G).low Z).rd).at_ gd;obtain⟨nm2,ba⟩:∃n,d.d.drops[j]? = some n:=⟨_,BF bW⟩;have s0:=bY j (.string nm2) (by unfold AY;rw[DY,ba];rfl);have f0:=(Z.cell (p:=gX xb (xo+i * 6)) ae).trans bT.o.1;rw[bX]at e3;obtain⟨eb,cq⟩:=ia (nm2.toList==x0.p.name.toList);have cr:ga (DO (d.d.drops.take (j+1)) x0.p.name=(gb||eb)):=AB (by rw[fj ba,<-HG.o,cq]);clear bX bY ba HG;cases gb<;>cases eb<;>(go_upto_region 32 with fail;go_quiet (fail);go_wp2_with fail;go_roundw;(case rel=>exact⟨j+1,_,rfl,by go_num,bW,AB cr.o.symm,CO Z _⟩);(case measure=>simp[intOf];omega))
  have bZ:j=d.d.drops.length:=gd;have b0:ga (gb=DO d.d.drops x0.p.name):=AB (by have:=HG.o;rw[bZ,E8]at this;exact this);clear HG bZ;cases gb with
  | true=>
    (go_wp2_with fail);go_roundw;case rel=>exact⟨i+1,oA,oc,out,rfl,by go_num,T,gd,Ag I Z,AB (by rw[bU.o,AJ b0.o.symm,List.append_nil];exact HO.o),Ah G Z⟩
    case measure=>simp[intOf];omega
  | false=>
    obtain⟨q0,q1,q2,q3,q4,q5⟩:=bT.o;have f0:=(Z.cell (p:=gX xb (xo+i * 6)) ae).trans q0;have f1:=(Z.cell (p:=gX xb (xo+i * 6+1)) ae).trans q1;have f2:=(Z.cell (p:=gX xb (xo+i * 6+2)) ae).trans q2;have f3:=(Z.cell (p:=gX xb (xo+i * 6+3)) ae).trans q3;have f4:=(Z.cell (p:=gX xb (xo+i * 6+4)) ae).trans q4;have f5:=(Z.cell (p:=gX xb (xo+i * 6+5)) ae).trans q5;have be:=Ag I Z;have aI:=Ah G Z;have zq:=aI.size;clear q0 q1 q2 q3 q4 q5 I;go_wp2_with (at_builtin;refine FO (enc:=elV) E4 rfl (.tmp 129) (.tmp 134) rfl be zq x0 Fa (Fb x0) rfl rfl gd ?_;intro g9 c9 w9 h1 h2 _)
    go_roundw;case rel=>exact⟨i+1,some ⟨g9,0,none⟩,c9,out++[x0],by rw[AR];rfl,by go_num,T,gt,h1,AB (by rw[bU.o,AE (by rw[<-b0.o];simp),<-HO.o]),aI.trans h2⟩
    case measure=>simp[intOf];omega
 have b1:ga (out=Gu d.d old):=AB (by have:=HO.o;rw[CF gd]at this;exact this);have cj:out.length<=1000000:=gd;have ct:ga (out.length<=576):=AB (by
  have h1:=congrArg List.length H9.o.2.2.2.2.2.2.2.2.2;rw[Ae]at h1;have h2:=a4.o;omega)
 clear HO bS;obtain⟨ws,cu⟩:∃x,x=wr:=⟨_,rfl⟩;subst cu;have b2:=gR I G;have cJ:=G.size;clear I G;go_wp2_with fail
 clear T;go_loopw [15,19] (λa9 iv wr=>∃(j:Nat) (pA:Option Addr) (pc:Nat) (o2:List El),a9 = .slice pA o2.length pc/\iv = .int .i64 j/\j<=d.al.length/\o2.length<=out.length+j/\wr.ownsRow w10.heap.size 97 6 (.slice pA o2.length pc) o2.length (o2.flatMap elV)/\ga (o2=out++(d.al.take j).map (Gv d.d r.n.seq))/\Below w10.heap.size w10 wr) (λ_ iv _=>d.al.length-(intOf iv).toNat);case atStart=>exact⟨0,oA,oc,out,rfl,rfl,AU _,gd,b2.o.1,AB gj,b2.o.2⟩
 case round=>
 obtain⟨j,pA,pc,o2,rfl,rfl,hj,cD,I,HO,G⟩:=hrel;have y3:=H9.o.2.2.2.1.keep G H9.o.2.2.2.1.z;have V:=H9.o.2.2.2.2.2.2.2.1.keep G H9.o.2.2.2.2.2.2.2.1.z;have e2:=y3.cell 2 _ rfl;by_cases T:j<d.al.length
 .obtain⟨xb,xo,b7,ae,ah⟩:=(H9.o.2.2.2.2.2.2.1.a.low G).row.rd.elA T;obtain⟨x0,am⟩:∃v,d.al.getD j default=v:=⟨_,rfl⟩;obtain⟨f0,f1,f2,f3,f4,f5⟩:=ah x0 am;rw[b7]at e2;have HT:ga (d.al.take (j+1)=d.al.take j++[x0]):=AB (by rw[Cn,BF T,<-am,BW,BF T];rfl);have af:=AP wr (eNV x0.p x0.A x0.c) 97;have O:=Af wr (.cells (eNV x0.p x0.A x0.c) 97);have HQ:=gU O af (Ag I O) (y3.keep O y3.z) (V.keep O V.z);have b8:w10.heap.size<=wr.heap.size:=G.size;have cv:ga (∀g,(Value.slice pA o2.length pc).ownBlock=some g->g<wr.heap.size):=AB λg hg=>(I.lt g hg).2;have cK:ga (b3<wr.heap.size/\b13<wr.heap.size):=AB ⟨y3.z,V.z⟩;clear ah am b7 ae af O y3 V I;go_upto_region 39 with fail
  generalize wr.alloc _=w6 at *;obtain⟨bx,af⟩:∃b,b=wr.heap.size:=⟨_,rfl⟩;rw[<-af];obtain⟨O,Y,ax,y3,V⟩:=HQ.o;have Y:=Y.at_ af.symm;have cw:=AB af;obtain⟨cx,ay⟩:∃b,d.d.rew=b:=⟨_,rfl⟩;have cc:=y3.cell 0 _ rfl;rw[ay]at cc;have cd:=AB ay;have n2:=V.cell 2 _ rfl;have g2:=Y.cell 2 _ rfl;have cy:=Y.free 2 gj;have HY:=AB Y;clear f0 f1 f2 f3 f4 f5 e2 Y af ay;go_upto_if 150 with fail;go_cut [] from 148 to 153 (λwx=>∃y:El,dH wx bx (eNV y.p y.A y.c).toList/\ga (y=Gv d.d r.n.seq x0)/\dI (λk=>k=bx) w6 wx);case first=>
   cases cx with
   | false=>
     (go_wp2_with fail);go_meet;exact⟨{ x0 with p:= { x0.p with seq:=r.n.seq } },HY.o.set (j:=2) _ rfl,AB (by unfold Gv;rw[cd.o];rfl),Ba ((Oth.refl bx w6).set 2 _)⟩
   | true=>
     (go_wp2_with fail);go_meet;exact⟨x0,HY.o,AB (by unfold Gv;rw[cd.o];rfl),.refl _ _⟩
  case rest=>
  obtain⟨y,Y,cz,m⟩:=hcut;clear g2 cy n2 cc HY y3 V;obtain⟨n0,n1,n2,n3,n4,n5⟩:=Y.c6;have af:=cw.o;have cf:=m.below (B:=w10.heap.size) (λk e=>gd) (AS b8 O.size);have aJ:=(G.trans (O.mono b8)).trans cf;have bg:=Bn (w':=wc) ax λq hg hl=>m.block q hl λe=>by have:=cv.o q hg;omega
  have zc:=aJ.size;clear Y m cf ax af O G;go_wp2_with (at_builtin;refine FO (enc:=elV) E4 rfl (.tmp 154) (.tmp 156) rfl bg zc y Fa (Fb y) rfl rfl gd ?_;intro g9 c9 w9 h1 h2 _)
  go_roundw;case rel=>exact⟨j+1,some ⟨g9,0,none⟩,c9,o2++[y],by rw[AR];rfl,by go_num,T,gt,h1,AB (by rw[HT.o,Cv,<-Az,<-HO.o,cz.o];rfl),aJ.trans h2⟩
  case measure=>simp[intOf];omega
 have cA:ga (o2.map El.p=I3 r.n.seq d.d (old.map El.p)):=AB (by
  have h:=HO.o;rw[CF gd,b1.o]at h;rw[h];exact fg d.d r.n.seq old d.al H9.o.2.2.2.2.2.2.1.e)
 have n0:=V.cell 0 _ rfl;have hE:=H9.o.1.low G;have hC:=H9.o.2.1.low G;have ak:=RS M wr sb mb c0 (K+12) r.s hE HN.o.1 r.c hC H9.o.2.2.1 r.n.id;rw[H9.o.2.2.2.2.2.2.2.2.1]at ak;have HM:=AB (H9.o.2.2.2.2.1.trans (.of G));have aK:∀y∈o2,dM wr (λ_=>True) 10 y.A y.p.stats.length y.c (BH y.p.stats):=λy hy=>by
  have h:=HO.o;rw[CF gd,b1.o]at h;rw[h]at hy;rcases List.mem_append.1 hy with q|q
  .exact(((H9.o.2.2.2.2.2.1.ins y (List.mem_filter.1 q).1).low G).imp λ_ _ _=>trivial)
  obtain⟨z,hz,rfl⟩:=CG.1 q;have g:=(((H9.o.2.2.2.2.2.2.1.a.ins z hz).low G).imp (Q:=λ_=>True) λ_ _ _=>trivial);unfold Gv;split
  .exact g
  exact g
 have HQ:ga (EnQ wr (λ_=>True) pA pc o2):=AB ⟨.own I λ_ _ _=>trivial,aK⟩;have cL:o2.length<=1000000:=by have:=a4.o;have:=ct.o;have:=aU.o.a;have e:d.op.al.length=d.al.length:=rfl;omega
 clear aK I y3 V hE hC HO G;go_wp2_with fail
 refine ak.mono ?_;rintro e w12 ⟨nA2,nk2,now,rfl,hnow,ao,hb12⟩;dsimp only at ao;have aF:=Af w12 (.cells #[.slice pA o2.length pc] 46);have aL:=Rd.lit (n:=1) (sz:=1) w12 46 #[.slice pA o2.length pc] rfl gn;have aM:=(HQ.o.low hb12).low aF;have cg:=S4 (λ_=>True) (w12.alloc (.cells #[.slice pA o2.length pc] 46)) (gY w12.heap.size 0) 1 [⟨o2,pA,pc⟩] (aL.more gj) (λx hx=>by rw[BS.1 hx];exact aM) [o2.map El.p] rfl (by rw[List.flatten_singleton,Ae];omega);have bh:=gS ((EnQ.own (P:=λ_=>True) hnow λ_ _ _=>trivial).low aF) ao (HM.o.trans ((dI.of hb12).trans (.of aF)));clear hnow ao hb12 aF aL aM ak n0 e2 T;go_wp2_with fail
 refine cg.mono ?_;rintro e w14 ⟨hb14,mA2,mc2,out2,rfl,hout2,hq2⟩;have az:=Zy w14 nA2 mA2 nk2 mc2 now out2 (bh.o.1.low hb14).en hq2.en (by rw[hout2,bh.o.2.1,cA.o,H9.o.2.2.2.2.2.2.2.2.2]);have ch:=AB (bh.o.2.2.trans (.of hb14));clear cg hb14 hout2 hq2;go_wp2_with fail
 refine az.mono ?_;rintro e w15 ⟨rfl,hb15⟩;have ci:=AB (ch.o.trans (.of hb15));clear az hb15;go_wp2_with fail
 go_ret;exact⟨rfl,ci.o.below (λk hk=>hk) (AD _)⟩
theorem fq (H:Type)(enc W base args)(ds gs:List (DataW H))(before)(hval0:∀(j:Nat) t v,Tryz.f7.params[j]? = some t->args[j]? = some v->Value.okWide Tryz.prog W .any base t v)(hW:DataW.Whole enc Tryz.prog Tryz.f7.params.toList Rows.catalogEntriesSpec.vars false W args.toList ds gs before)(hL:laidMetH Tryz.prog Rows.catalogEntriesRow.laid W):
 Calls Tryz.prog 7 args W λe W'=>∃v,e = .returned v/\Rows.catalogEntriesSpec.post enc Tryz.prog Tryz.f7 false true false false W args v W':=by
 have G:∀(j:Nat) t v,Tryz.f7.params[j]? = some t->args[j]? = some v->Value.okWide Tryz.prog W .any base t v:=hval0;have O:=hW;obtain⟨p,q,I,hV,rfl,aa,ab⟩:=hW;have hA:DataW.TrodAll enc Tryz.prog W 0 (λ_=>true) true Tryz.f7.params.toList args.toList ds p:=I;rw[Tryz.params7]at hA G;obtain⟨v0,ad,d0,ae,p0,q0,T,rfl,rfl,h0,r0⟩:=trodAll_cons hA;obtain⟨v1,af,d1,ag,p1,q1,rfl,rfl,rfl,h1,r1⟩:=trodAll_cons r0;obtain⟨rfl,rfl,rfl⟩:=trodAll_nil r1;obtain rfl:args=#[v0,v1]:=by cases args;simp_all
 obtain⟨rfl,rfl⟩:=trodVars_none hV;have k0:=h0;have V:∀x∈p0,x.block<W.heap.size:=by obtain⟨m,hm⟩:=k0;exact DataW.trod_lt m _ _ _ hm
 have k1:=h1;have Z:∀x∈p1,x.block<W.heap.size:=by obtain⟨m,hm⟩:=k1;exact DataW.trod_lt m _ _ _ hm
 obtain⟨A0,c0,l0,rfl,w0,n0⟩:=fY (G 0 65 v0 rfl rfl) h0;obtain⟨o1,rfl,w1⟩:=fZ (G 1 48 v1 rfl rfl) h1;clear I hval0;refine(fp W (fe hL) A0 c0 l0 w0 n0 o1 w1).mono λe W' ⟨he,bel⟩=>?_;subst he;exact⟨_,rfl,_,_,_,[],_,[],O,trodAll_mk1 (shut_bool Tryz.underlying4 _),(trodAll_cons_mk (Below.trod Sg gh (of_decide_eq_true gh) k0 bel V) (trodAll_cons_mk (Below.trod Sg gh (of_decide_eq_true gh) k1 bel Z) trodAll_mk0)),rfl,bel.frame _,λh=>by cases h⟩
abbrev Mk:Array Value:=#[.slice none 0 0,.agg #[.bool false,.slice none 0 0,.slice none 0 0,.slice none 0 0,.int .u64 0,.int .u64 0]]
noncomputable def Ml (os:Os):World:=World.laidAll Tryz.prog os Rows.catalogEntriesRow.laid
theorem ft (os):laidMet Tryz.prog Rows.catalogEntriesRow.laid ((Ml os).forCall (λ_ _=>0) ⟨#[],Mk,[]⟩).memory:=YI os _
theorem reads (os){H:Type}(enc:TypeId×Value->H):∃places,DataW.whole enc Tryz.prog ((Ml os).forCall (λ_ _=>0) ⟨#[],Mk,[]⟩).memory Tryz.f7.params.toList Rows.catalogEntriesSpec.vars false Mk.toList 8=some ([.nil,.agg [.lit (.bool false),.nil,.nil,.nil,.lit (.int .u64 0),.lit (.int .u64 0)]],[],places):=
 ⟨[],gh⟩
theorem fv (os)(started:os.Started)(H:Type)(enc:TypeId×Value->H)(F:Stop.Interp):
 ReturnsInHanded {} Tryz.checked os 7 .any ((OpenSpec.ofChange Rows.catalogEntriesSpec).preRow enc Tryz.prog Tryz.f7 Rows.catalogEntriesRow.domain false Rows.catalogEntriesRow.laid) (((OpenSpec.ofChange Rows.catalogEntriesSpec).at F).post enc Tryz.prog Tryz.f7 false true false false):=by
 obtain⟨O,hx⟩:=reads os enc;refine returnsInHanded_of_row (C:=Tryz.checked) (s:=OpenSpec.ofChange Rows.catalogEntriesSpec) own started gh Tryz.func7
  (witness_row_atRef (enc:=enc) (C:=Tryz.checked) false (Ml os) Mk (World.laidAll_os _ _ _) gh gh gh
    (OpenSpec.preRow_of_cond 8 hx gh (λk hk=>by cases hk) gh (ft os))) ?_
 intro W base args ds gs G I hW _ _ _ hL _ _;exact fq H enc W base args ds gs G I hW hL
theorem fw:Rows.CatalogEntriesSaid:=
 OpenClaim.holds_of_cond 7 Tryz.f7 rfl rfl rfl rfl rfl rfl rfl ⟨rfl,rfl,rfl,rfl,rfl⟩ rfl rfl rfl rfl rfl gh Tryz.func7 YJ
  (of_decide_eq_true gh) (by unfold Func.isWrapper;first|(rw[AJ gw];kernel_rfl)|(rw[AE gw];exact⟨rfl,rfl⟩))
  (λos G H enc _ F=>by rw[OpenClaim.pre_eq_preRow];exact fv os G H enc F)
theorem fx (f fn)(hf:Tryz.pinned.checked.prog.funcNamed "catchment/catchmentlaw15.CatalogEntries" = some f)(hfn:Tryz.pinned.checked.prog.funcs[f]? = some fn):
 true=Tryz.pinned.checked.prog.looks []/\∀(j:Nat) t,fn.params[j]? = some t->Tryz.pinned.checked.prog.wantsStandIn t=false:=by
 obtain rfl:f=7:=EW ((show Tryz.prog.funcNamed "catchment/catchmentlaw15.CatalogEntries" = some 7 by kernel_rfl).symm.trans hf) |>.symm;obtain rfl:fn=Tryz.f7:=(EW (Tryz.func7.symm.trans hfn)).symm;refine⟨gh,λj t ht=>?_⟩;rw[Tryz.params7]at ht;have hm:=Array.mem_of_getElem? ht;simp only[List.mem_toArray,List.mem_cons,Bf,or_false]at hm;rcases hm with rfl|rfl
 .exact(show Tryz.prog.wantsStandIn 65=false by kernel_rfl)
 exact(show Tryz.prog.wantsStandIn 48=false by kernel_rfl)
theorem proved:Rows.CatalogEntriesCardSaid:=
 Claim7.holds_tied_plain_at .later [] _ _ _ _ fw (λ_ h=>by cases h) gh (λ_ h=>by cases h) catalogEntries_row_tie rfl ⟨rfl,rfl⟩ gh rfl fx gh
#print axioms proved
end Go.Proofs.YtpfofefecamkfaaGreatDoor.catalogEntries
