/- For CatalogEntries. -/
import Derived.Test.YtpfofefecamkfaaGreatDoorZ4
import Derived.Test.YtpfofefecamkfaaGreatDoorZ13
namespace Go.Proofs.YtpfofefecamkfaaGreatDoor
open Go.RowKit Proofs.Tryz
set_option maxRecDepth 100000
set_option maxHeartbeats 16000000
set_option linter.all false
theorem Pn (w sA sc ss nA nc ns cur)(hT:TabR w w.heap.size sA sc ss nA nc ns)(h1:ss.length<=1000000)(h2:∀s∈ss,s.fs.length<=1000000)(h3:ns.length<=1000000)(h4:∀s∈ns,s.p.ms.length<=1000000)(sid sfs fA fc)(hrp:Rd w w.heap.size 4 fA sfs.length fc (AZ sfs))(hpm:sfs.length<=1000000):
 Calls prog 92 #[.agg (dP sA ss.length sc nA ns.length nc cur),.agg (dR sid fA sfs.length fc)] w (Fh w (ss.map dK) (ns.map dL) cur (sid,sfs)):=by
 by_cases ar:16<=ss.length
 .have t1:=gI 16 ss.length;have V:CT (ss.map dK) (ns.map dL) cur (sid,sfs)=4:=by unfold CT;rw[AJ (by rw[Ae];exact ar)]
  unfold Fh;rw[V,AE gm];clear ar V;go_enter func92,ntmps92;go_wp2_with fail
  (try simp only[Exit.inBlock,Exit.then]);have ae:=hI w (.cells (dP sA ss.length sc nA ns.length nc cur) 39);have au:(w.alloc (.cells (dP sA ss.length sc nA ns.length nc cur) 39)).heap.size=w.heap.size+1:=gj;generalize w.alloc _=w1 at *;have af:=ae.alloc ae.size (.cells (dR sid fA sfs.length fc) 33);have av:(w1.alloc (.cells (dR sid fA sfs.length fc) 33)).heap.size=w1.heap.size+1:=gj;generalize w1.alloc _=w2 at *;have x3:=AP w2 Aa 39;have ag:=af.alloc af.size (.cells Aa 39);rw[<-au,<-av];refine AW (BA (b:=w2.heap.size) rfl _ _ rfl x3) rfl ?_;exact Gg w _ 4 ag
 have t1:=gJ 16 ss.length;obtain⟨P',aD⟩:=ib (Fh w (ss.map dK) (ns.map dL) cur (sid,sfs));rw[<-aD];have HP:=AB aD;have aR:=AB ar;clear ar aD;go_enter func92,ntmps92;go_wp2_with fail
 obtain⟨x1,ae⟩:=gZ w (dP sA ss.length sc nA ns.length nc cur) 39;have au:(w.alloc (.cells (dP sA ss.length sc nA ns.length nc cur) 39)).heap.size=w.heap.size+1:=gj;generalize w.alloc _=w1 at *;obtain⟨x2,af⟩:=gZ w1 (dR sid fA sfs.length fc) 33;have av:(w1.alloc (.cells (dR sid fA sfs.length fc) 33)).heap.size=w1.heap.size+1:=gj;have aE:=x1.keep af x1.z;have aF:=AM ae ae.size af;generalize w1.alloc _=w2 at *;obtain⟨x3,ag⟩:=gZ w2 Aa 39;have a0:=aE.keep ag aE.z;have aG:=x2.keep ag x2.z;have aj:=AM aF aF.size ag;generalize w2.alloc _=w3 at *;have aS:=hT.later aj;have ay:=(hrp.below aj).more aj.size;rw[<-au,<-av];have a4:w.heap.size<w1.heap.size:=gd;have aH:w1.heap.size<w2.heap.size:=gd;have T:w2.heap.size<w3.heap.size:=x3.z;generalize az:w.heap.size=b1 at *;generalize w1.heap.size=b2 at *;generalize w2.heap.size=b3 at *;have H1:=AB az;clear au av ae af ag x1 aE x2 aF hT hrp az t1;refine(Kl w3 sA sc ss nA nc ns cur aS h1 h2 h3 h4).mono ?_;rintro e w4 ⟨oA,oc,sd,pA',pc',nd,rfl,O4,ah,ak,hb4⟩;have X2:=aG.keep hb4 aG.z;have X3:=x3.keep hb4 x3.z;have aB:=(ay.below hb4).more hb4.size;have aT:Below b1 w w4:=aj.trans (hb4.mono gd);have aI:w3.heap.size<=w4.heap.size:=hb4.size;have a1:ga (sd.length=ss.length):=AB (by have:=congrArg List.length ah;simpa using this);have aJ:=gR ah ak;clear a0 aG x3 aS ay hb4 aj ah ak;go_wp2_with fail
 have y:=Dv w4 (dP oA sd.length oc pA' nd.length pc' cur) 39;have ab:=hI w4 (.cells (dP oA sd.length oc pA' nd.length pc' cur) 39);have aw:=X2.keep ab X2.z;have aU:=X3.keep ab X3.z;have O5:=O4.keep ab;have aC:=(aB.below ab).more ab.size;have aK:Below b1 w _:=AM aT (show b1<=w4.heap.size by omega) ab;have a5:w4.heap.size<(w4.alloc (.cells (dP oA sd.length oc pA' nd.length pc' cur) 39)).heap.size:=gj;generalize w4.alloc _=w5 at *;generalize w4.heap.size=b6 at *;clear X2 X3 O4 aB aT ab;obtain⟨u0,u1⟩:=aw.c2;have o1:=y.bx.cell 0 _ rfl;have aV:w3.heap.size<=w5.heap.size:=gd;have z2:b2<w5.heap.size:=aw.z;have HY:=gT y O5 aw aU;obtain⟨ti,aL,am,ao,ap⟩:=DZ Fu.inf;have a6:sd.length<=1000000:=by have:=a1.o;omega
 clear y O5 aw aU;go_cut [] from 14 to 25 (λwx=>∃g cap ad,ad.map dK=sd.map dK++[(sid,sfs)]/\BoxT wx b6 #[.slice (gY g 0) ad.length cap,.slice pA' nd.length pc',il cur].toList 39/\dN wx w3.heap.size (gY g 0) cap ad pA' pc' nd/\dH wx b3 [ir,ir,il 0]/\Below b1 w wx);case first=>
  rename_i J K1 hJ hK1;have ai:b1<=w5.heap.size:=gd;have aM:b1<=w3.heap.size:=gd;have aN:b6≠b2:=gd;refine wp_region_held_drew (S:=λw'=>dH w' b2 [im sid.toNat,.slice fA sfs.length fc]) gh ?_ (λhHeld=>?_)
  .exact⟨HY.o.2.2.1.cell,HY.o.2.2.1.free,HY.o.2.2.1.z⟩
  refine tK 0 ?_;refine tK 2 ?_;refine ij 3 (v:=?_) ?_ ?_;rotate_left 1
  ·(intro w hSw;have q0:=hSw.cell 0 _ rfl;have q1:=hSw.cell 1 _ rfl;go_simp;first|done|with_reducible rfl)
  refine ie ?_;refine tK 4 ?_;refine ij 5 (v:=?_) ?_ ?_;rotate_left 1
  ·(intro w hSw;have q0:=hSw.cell 0 _ rfl;have q1:=hSw.cell 1 _ rfl;go_simp;first|done|with_reducible rfl)
  refine ie ?_;refine wpAnyH_ready (rs:=[1,6]) gh gj ?_;refine AllReadyH.cons rfl (λK hK=>?_) (AllReadyH.cons rfl (λK hK=>?_) (AllReadyH.nil))
  .go_simp;refine hK.out _ _ hHeld (λhHeld=>?_);clear hK K;refine ie ?_;refine rD 6 λK hK=>?_;go_simp;go_at_call 84;refine(Ha w5.drew w5.heap.size sfs.length fc fA (AZ sfs) aC.drew (Ee _) gd (AD _)).mono ?_;rintro e w6 ⟨vv,rfl,hown6,hb6⟩;obtain⟨A6,c6,rfl⟩:=BK hown6;have G:=BY hb6;have aO:=HY.o.2.2.1.keep G z2;have a2:=(HY.o.1.keep G).bx.cell 0 _ rfl;have aq:=hI w6 (.cells (dR sid A6 sfs.length c6) 33);have HL:=AB (Pm (sid:=sid) (HY.o.2.1.keep G) hown6 aV G.size (HY.o.1.keep G) (HY.o.2.2.1.keep G z2) (HY.o.2.2.2.keep G HY.o.2.2.2.z));have a3:=((HY.o.1.keep G).keep aq).bx.cell 0 _ rfl;clear aq hown6 hb6;dsimp only;refine hK.out _ _ aO (λhHeld=>?_);clear hK K;refine ie ?_;refine tK 7 ?_;refine rD 8 λK hK=>?_;go_simp;refine hK.out _ _ HL.o.2.2.2.2.2.1 (λhHeld=>?_);clear hK K;refine ie ?_;refine rD 9 λK hK=>?_;refine Cw _ rfl (.tmp 15) (.tmp 22) 36 rfl w3.heap.size 33 ti _ 2 32 underlying36 aL am ao ap Fu.zs gm _ sd.length (CX sd) (by simp[Act.eval,Act.put]) HL.o.1.sown _ 1 1 (slV ⟨sid,sfs,A6,c6⟩) (by simp[Act.eval,Act.put]) rfl HL.o.2.1 (GZ _) gd gq gd HL.o.2.2.1 _ rfl ?_;intro g cap w8 I Z _ _;have aa:=LY HL.o.1 HL.o.2.2.2.1 HL.o.2.2.2.2.1 HL.o.2.2.2.2.2.1 HL.o.2.2.2.2.2.2 I Z (Nat.lt_trans aH T) T HL.o.2.2.1;have O:=AB aa;have aW:=O.o.2.1.bx.cell 0 _ rfl;have aX:=O.o.2.1.bx.free 0 gj;clear I Z aa;refine hK.out _ _ O.o.2.2.1 (λhHeld=>?_);clear hK K;refine ie ?_;refine tK 10 ?_;refine rD 11 λK hK=>?_;go_simp;refine hK.out _ _ (O.o.2.2.1.else (p:=gX b6 0) aN _) (λhHeld=>?_);clear hK K;refine ie ?_;refine wpAnyH_done gh ?_ _;refine hK1 _ _ ?_;go_meet;exact LZ O.o (AM (aK.trans (G.mono ai)) (AS ai G.size) (hI w6 _)) aM aI T
  go_simp;go_at_call 84;refine(Ha w5.drew w5.heap.size sfs.length fc fA (AZ sfs) aC.drew (Ee _) gd (AD _)).mono ?_;rintro e w6 ⟨vv,rfl,hown6,hb6⟩;obtain⟨A6,c6,rfl⟩:=BK hown6;have G:=BY hb6;have aO:=HY.o.2.2.1.keep G z2;have a2:=(HY.o.1.keep G).bx.cell 0 _ rfl;have aq:=hI w6 (.cells (dR sid A6 sfs.length c6) 33);have HL:=AB (Pm (sid:=sid) (HY.o.2.1.keep G) hown6 aV G.size (HY.o.1.keep G) (HY.o.2.2.1.keep G z2) (HY.o.2.2.2.keep G HY.o.2.2.2.z));have a3:=((HY.o.1.keep G).keep aq).bx.cell 0 _ rfl;clear aq hown6 hb6;dsimp only;refine hK.out _ _ aO (λhHeld=>?_);clear hK K;refine ie ?_;refine tK 7 ?_;refine wpAnyH_ready (rs:=[1,8]) gh gj ?_;refine AllReadyH.cons rfl (λK hK=>?_) (AllReadyH.cons rfl (λK hK=>?_) (AllReadyH.nil))
  .go_simp;refine hK.out _ _ hHeld (λhHeld=>?_);clear hK K;refine ie ?_;refine rD 8 λK hK=>?_;go_simp;refine hK.out _ _ HL.o.2.2.2.2.2.1 (λhHeld=>?_);clear hK K;refine ie ?_;refine rD 9 λK hK=>?_;refine Cw _ rfl (.tmp 15) (.tmp 22) 36 rfl w3.heap.size 33 ti _ 2 32 underlying36 aL am ao ap Fu.zs gm _ sd.length (CX sd) (by simp[Act.eval,Act.put]) HL.o.1.sown _ 1 1 (slV ⟨sid,sfs,A6,c6⟩) (by simp[Act.eval,Act.put]) rfl HL.o.2.1 (GZ _) gd gq gd HL.o.2.2.1 _ rfl ?_;intro g cap w8 I Z _ _;have aa:=LY HL.o.1 HL.o.2.2.2.1 HL.o.2.2.2.2.1 HL.o.2.2.2.2.2.1 HL.o.2.2.2.2.2.2 I Z (Nat.lt_trans aH T) T HL.o.2.2.1;have O:=AB aa;have aW:=O.o.2.1.bx.cell 0 _ rfl;have aX:=O.o.2.1.bx.free 0 gj;clear I Z aa;refine hK.out _ _ O.o.2.2.1 (λhHeld=>?_);clear hK K;refine ie ?_;refine tK 10 ?_;refine rD 11 λK hK=>?_;go_simp;refine hK.out _ _ (O.o.2.2.1.else (p:=gX b6 0) aN _) (λhHeld=>?_);clear hK K;refine ie ?_;refine wpAnyH_done gh ?_ _;refine hK1 _ _ ?_;go_meet;exact LZ O.o (AM (aK.trans (G.mono ai)) (AS ai G.size) (hI w6 _)) aM aI T
  go_simp;refine hK.out _ _ HL.o.2.2.2.2.2.1 (λhHeld=>?_);clear hK K;refine ie ?_;refine rD 1 λK hK=>?_;go_simp;refine hK.out _ _ hHeld (λhHeld=>?_);clear hK K;refine ie ?_;refine rD 9 λK hK=>?_;refine Cw _ rfl (.tmp 15) (.tmp 22) 36 rfl w3.heap.size 33 ti _ 2 32 underlying36 aL am ao ap Fu.zs gm _ sd.length (CX sd) (by simp[Act.eval,Act.put]) HL.o.1.sown _ 1 1 (slV ⟨sid,sfs,A6,c6⟩) (by simp[Act.eval,Act.put]) rfl HL.o.2.1 (GZ _) gd gq gd HL.o.2.2.1 _ rfl ?_;intro g cap w8 I Z _ _;have aa:=LY HL.o.1 HL.o.2.2.2.1 HL.o.2.2.2.2.1 HL.o.2.2.2.2.2.1 HL.o.2.2.2.2.2.2 I Z (Nat.lt_trans aH T) T HL.o.2.2.1;have O:=AB aa;have aW:=O.o.2.1.bx.cell 0 _ rfl;have aX:=O.o.2.1.bx.free 0 gj;clear I Z aa;refine hK.out _ _ O.o.2.2.1 (λhHeld=>?_);clear hK K;refine ie ?_;refine tK 10 ?_;refine rD 11 λK hK=>?_;go_simp;refine hK.out _ _ (O.o.2.2.1.else (p:=gX b6 0) aN _) (λhHeld=>?_);clear hK K;refine ie ?_;refine wpAnyH_done gh ?_ _;refine hK1 _ _ ?_;go_meet;exact LZ O.o (AM (aK.trans (G.mono ai)) (AS ai G.size) (hI w6 _)) aM aI T
 case rest=>
  obtain⟨g,cap,ad,aY,hX,hO,aP,hb⟩:=hcut;have ak:=aJ.o.2;have ah:ad.map dK=ss.map dK++[(sid,sfs)]:=by rw[aY,aJ.o.1]
  have ax:=gR ah ak;have a7:=hX.bx.z;obtain⟨c0,c1,c2⟩:=hX.bx.c3;clear aY ah ak aJ;go_wp2_with fail
  refine(Ko wc _ cap ad pA' pc' nd cur hO.tab).mono ?_;rintro e w9 ⟨rfl,hb9⟩;have X6:=hX.bx.keep hb9 hX.bx.z;have X3:=aP.keep hb9 aP.z;have O9:=hO.keep hb9;have aZ:Below b1 w w9:=AM hb gd hb9;rw[ax.o.1,ax.o.2];clear c0 c1 c2 hX aP hO hb hb9;have k0:=X3.cell 0 _ rfl;have f0:=X3.free 0 gj;have k1:=X3.cell 1 _ rfl;have f1:=X3.free 1 gj;have k2:=X3.cell 2 _ rfl;have f2:=X3.free 2 gj;have HX:=gR X3 O9;cases hr:B7 (ss.map dK++[(sid,sfs)]) (ns.map dL) cur with
  | false=>
    have V:CT (ss.map dK) (ns.map dL) cur (sid,sfs)=1:=by unfold CT;rw[AE (by rw[Ae];exact aR.o),hr];rfl
    have aQ:=AB V;clear V hr X3 X6 O9;(go_wp2_with fail);(try simp only[Exit.inBlock,Exit.then]);refine AW (BA (b:=b3) rfl _ _ rfl HX.o.1.set3b) rfl ?_;rw[HP.o];unfold Fh;rw[aQ.o,AE gm];exact Gg w _ 1 (by rw[H1.o];exact BV aZ gd)
  | true=>
    have V:CT (ss.map dK) (ns.map dL) cur (sid,sfs)=0:=by unfold CT;rw[AE (by rw[Ae];exact aR.o),hr];rfl
    have aQ:=AB V;obtain⟨d0,d1,d2⟩:=X6.c3;clear V hr X3 X6 O9;(go_wp2_with fail);(try simp only[Exit.inBlock,Exit.then]);refine AW (BA (b:=b3) rfl _ _ rfl HX.o.1.set3b) rfl ?_;rw[HP.o];unfold Fh;rw[aQ.o,AJ rfl];exact⟨_,cap,ad,pA',pc',nd,rfl,by rw[H1.o];exact(HX.o.2.set3b T).base gd,ax.o.1,ax.o.2,by rw[H1.o];exact BV aZ gd⟩
theorem WM (w)(hT:Tabs w)(s)(hs:s.size<=24):Calls prog 76 #[.string s] w λe w'=>e = .returned (io (Br s:Int))/\Below w.heap.size w w':=by
 by_cases h2:s.size<2
 .have t7:=gG s.size 2;have HN:ga (Br s=0):=AB (by unfold Br Gn;rw[AJ (by simp[h2])]);clear h2;go_enter func76,ntmps76;go_wp2_with fail
  go_ret;rw[HN.o];exact⟨rfl,AC _ _⟩
 have t7:=gH s.size 2;have z0:0<s.size:=gd;have z1:1<s.size:=gd;obtain⟨x,hx⟩:=ib ((s.get! 0).toNat);obtain⟨y,hy⟩:=ib ((s.get! 1).toNat);have gx:(s[0]'z0).toNat=x:=by rw[hx,Q5]
 have gy:(s[1]'z1).toNat=y:=by rw[hy,Q5]
 have HX:=gR hx hy;have H2:=AB h2;clear hx hy h2;by_cases h3:x<97
 .have ag:=gG x 97;have HN:ga (Br s=0):=AB (by unfold Br Gn;rw[<-HX.o.1,AJ (by simp[h3])]);clear h3;go_enter func76,ntmps76;go_wp2_with fail
  go_ret;rw[HN.o];exact⟨rfl,AC _ _⟩
 have ag:=gH x 97;by_cases h4:122<x
 .have ah:=gG 122 x;have HN:ga (Br s=0):=AB (by unfold Br Gn;rw[<-HX.o.1,AJ (by simp[h4])]);clear h3 h4;go_enter func76,ntmps76;go_wp2_with fail
  go_ret;rw[HN.o];exact⟨rfl,AC _ _⟩
 have ah:=gH 122 x;have HL:ga (Gn s=false):=AB (by unfold Gn;rw[<-HX.o.1];simp[H2.o,h3,h4]);clear h3 h4;by_cases h5:y=48
 .have ai:=gK y 48;have HN:ga (Br s=0):=AB (by unfold Br GI;rw[AE (by rw[HL.o];simp),<-HX.o.2,AJ (by simp[h5])]);clear h5;go_enter func76,ntmps76;go_wp2_with fail
  go_ret;rw[HN.o];exact⟨rfl,AC _ _⟩
 have ai:=gL y 48;have H5:=AB h5;clear h5;go_enter func76,ntmps76;go_wp2_with fail
 have G:=WK s;have ak:(s.extract 1 s.size).size<=24:=by
  have:(s.extract 1 s.size).size=(s.extract 1 s.size).data.toList.length:=gj;rw[this,G,F6];have e:s.data.toList.length=s.size:=gj;omega
 have I:=VK (s.extract 1 s.size) ⟨#[48,49,50,51,52,53,54,55,56,57]⟩ w gd gm (ascii_of_all gm);have O:(⟨#[48,49,50,51,52,53,54,55,56,57]⟩:ByteArray).data.toList=Hx:=rfl;rw[G,O]at I;refine I.mono ?_;rintro e w1 ⟨rfl,hb1⟩;clear I;by_cases hq:Lib.trimS (s.data.toList.drop 1) Hx=[]
 .rw[hq];have Z:GI s=false:=by unfold GI;rw[<-HX.o.2,hq];simp[H5.o]
  have T:=Px Z (by have:=H2.o;omega);have ad:=Pw T.1 T.2;have HV:ga (Br s=FK s):=AB (by unfold Br;rw[AE (by rw[HL.o];simp),AE (by rw[Z];simp)]);have am:=AB T;clear T Z hq O;rw[<-G]at ad;rcases ad with ⟨v,hv,ao⟩|hv
  .have aa:ga (FK s=v):=AB (Py (by rw[<-G];exact hv));have ae:=strconv_Atoi_ok (s.extract 1 s.size) gd (v:Int) hv w1;clear hv G;(go_wp2_with fail);refine ae.mono ?_;rintro e w2 ⟨rfl,hw2⟩;have ab:Below w.heap.size w w2:=by
    rcases hw2 with rfl|⟨t,rfl⟩
    .exact hb1
    exact AM hb1 hb1.size (Lib.bytesWorld_below _ _ _)
   clear hw2 ae;(go_wp2_with fail);go_ret;rw[HV.o,aa.o];exact⟨rfl,ab⟩
  have aa:ga (FK s=1073741824):=AB (Pz (by rw[<-G];exact hv));obtain⟨tp,p,V⟩:=(hT.low hb1).rng;have af:=strconv_Atoi_range_var (s.extract 1 s.size) gd hv tp p w1 V;clear hv G V;go_wp2_with fail
  refine af.mono ?_;rintro e w2 ⟨N,rfl,_,_,ab⟩;have aj:=AM hb1 hb1.size ab;clear af;go_wp2_with fail
  go_ret;rw[HV.o,aa.o];exact⟨rfl,aj⟩
 have ap:=WL _ hq;have HN:ga (Br s=0):=AB (by unfold Br;rw[AE (by rw[HL.o];simp),AJ (by unfold GI;rw[Bool.or_eq_true];right;rw[GQ,<-Bool.not_eq_true,List.isEmpty_iff];exact hq)]);generalize (⟨(Lib.trimS (s.data.toList.drop 1) Hx).toArray⟩:ByteArray)=R at *;clear hq G O;go_wp2_with fail
 go_ret;rw[HN.o];exact⟨rfl,hb1⟩
theorem Ie (M w sb mb cb K s)(h:Env M w sb mb K s)(hK:K<=900000)(c0:w.cell? (gX cb 0)=some (iq sb 0))(hcb:cb<w.heap.size/\cb≠sb/\cb≠mb)(c A k bs)(hr:dM w (λk=>¬M k) 1 A bs.length k (AO bs)):
 Calls prog 35 #[iq cb 0,ip c.toNat,.slice A bs.length k] w (WT M w sb mb (K+2) (s.stage c bs)):=by
 have HE:=AB h;by_cases ah:c.toNat<97
 .have aF:=gG c.toNat 97;have HG:=AB (Q6 (s:=s) (show Em c=false by unfold Em;rw[AG gd];rfl) bs);clear ah h;go_enter func35,ntmps35;go_wp2_with fail
  go_ret2;rw[HG.o];exact⟨rfl,HE.o.more gd,dI.refl _ _⟩
 have aF:=gH c.toNat 97;by_cases ar:122<c.toNat
 .have aG:=gG 122 c.toNat
  have HG:=AB (Q6 (s:=s) (show Em c=false by unfold Em;rw[AG (show ¬c.toNat<=122 by omega),Bool.and_false]) bs);clear ah ar h;go_enter func35,ntmps35;go_wp2_with fail
  go_ret2;rw[HG.o];exact⟨rfl,HE.o.more gd,dI.refl _ _⟩
 have aG:=gH 122 c.toNat;have ai:ga (Em c=true):=AB (by unfold Em;rw[AF gd,AF gd];rfl);clear ah ar;obtain⟨N,hN,hS⟩:=h.st;have HS:=AB hS;have HR:=AB hr;clear h hr;go_enter func35,ntmps35;go_wp2_with fail
 refine(Vu _ w sb mb N s hS gd).mono ?_;rintro e w1 ⟨hb1,A1,k1,rfl,hr1,_⟩;clear hS;cases hd:s.dead with
 | true=>
   rw[So.list_dead hd]at hr1 ⊢;have HG:=AB (WU ai.o hd bs);dsimp only at hr1 ⊢;clear hd;(go_wp2_with fail);go_ret2;rw[HG.o];exact⟨rfl,(HE.o.low hb1).more gd,dI.of hb1⟩
 | false=>
 rw[So.list_on hd]at hr1 ⊢;dsimp only at hr1 ⊢;rw[show((0:Nat):Int)=0 from rfl];have aa:∀x∈Bl s.m,x.size<=24:=λx hx=>WI HE.o.fit hx;obtain⟨ns,aj⟩:=ib (Bl s.m);rw[<-aj]at hr1 aa ⊢;have HD:=gR hd aj;have:ns.length<=9223372036854775807:=by have h1:=hr1.le;have h2:=hr1.cap;unfold maxLen at h2;omega
 have HZ:=AB aa;clear hd aj aa;go_wp2_with fail
 go_loopw [10,35] (λmv iv wr=>∃(m j:Nat),mv = io m/\iv = io j/\j<=ns.length/\ga (m=Cu (ns.take j))/\(m:Int)<=9223372036854775807/\Below w1.heap.size w1 wr) (λ_ iv _=>ns.length-(intOf iv).toNat);case atStart=>exact⟨0,0,rfl,rfl,AU _,AB rfl,gm,AC _ _⟩
 case round=>
  obtain⟨m,j,rfl,rfl,hj,hm,aT,O⟩:=hrel;by_cases au:j<ns.length
  .obtain⟨b,off,rfl,hb,hc⟩:=(hr1.below O).at_ gd;obtain⟨nm,ab⟩:=ia (ns.getD j ByteArray.empty);have ad:ns[j]? = some nm:=by rw[<-ab,BW,BF au];rfl
   have ak:=hc j (.string nm) (by unfold AY;rw[DY,ad];rfl);have hz:=HZ.o nm (List.mem_of_getElem? ad);have HM:ga (Cu (ns.take (j+1))=max m (Br nm)):=AB (by rw[WP ns j nm ad,hm.o]);have:=WR nm;have aH:Tabs wr:=(HE.o.tb.low hb1).low O;have av:=WM wr aH nm hz;generalize Br nm=q at *;have aI:=AB av;clear hc ad ab av;(go_wp2_with fail);refine aI.o.mono ?_;rintro e w2 ⟨rfl,hb2⟩;have aJ:=AM O O.size hb2;clear ak;(go_wp2_with fail);go_roundw;case rel=>
    refine⟨max m q,j+1,?_,by go_num,au,AB HM.o.symm,gd,aJ⟩;congr 1;omega
   case measure=>simp[intOf];omega
  have ae:ga (m=Cu (Bl s.m)):=AB (by rw[hm.o,CF gd,HD.o.2]);have T:=AM hb1 hb1.size O;clear hm;by_cases I:1073741824<=m
  .have aK:=gI 1073741824 m;have HG:=AB (WV ai.o HD.o.1 (by rw[<-ae.o];exact I) bs);clear I;(go_wp2_with fail);go_ret2;rw[HG.o];exact⟨rfl,(HE.o.low T).more gd,dI.of T⟩
  have aK:=gJ 1073741824 m;have HG:=AB (WW ai.o HD.o.1 (by rw[<-ae.o];exact I) bs);have aL:m<1073741824:=gd;clear I hr1;have aw:=HE.o.tb.low T;go_upto_region 14 with fail
  refine DR BC gh gh ?_;simp only[Bv,Bw];refine Cr BC ?_ (λ_ _ h=>by cases h) rfl rfl ?_ ?_;rotate_left 1
  .intro w' V C hC;go_simp;try go_bits
   exact hC
  simp only[AX,AI,AH];refine C5 (Slot.has (F9 [c])) (λ_ _ h=>by cases h) rfl rfl (J6 _) (λw' V=>?_) ?_
  .go_simp;exact⟨(AC _ _).alloc (AD _) _,Jo w' c⟩
  simp only[AX,AI,AH];refine La 47 (_) underlying55 underlying5 underlying9 rfl rfl gj rfl rfl (λ_=>rfl) ?_;simp only[AX,AI,AH];iterate 2 (refine zV ?_ rfl ?_ ?_;rotate_left 1;(·intro w' V C hC;go_simp;(try go_bits);exact hC);simp only[AX,AI,AH])
  refine C5 (.is (.string ⟨(Lib.decDigits (m+1)).toArray⟩)) (λ_ _ h=>by cases h) rfl rfl (Cq _) (λw' V=>?_) ?_
  .go_simp;exact⟨AC _ _,(strconv_Itoa ((m:Int)+1) gd gd w' ((aw.low (BY V)).pow)).mono λe aV h=>by obtain⟨h1,kk,os,h2⟩:=h;exact Db (by rw[h1];rfl) (by rw[h2];exact WN _ _ _)⟩
  simp only[AX,AI,AH];refine Cr BC ?_ (λ_ _ h=>by cases h) rfl rfl ?_ ?_;rotate_left 1
  .intro w' V C hC;have:¬(9223372036854775807<1+(Lib.decDigits (m+1)).length):=by have:=Jn (m+1);omega
   have h1:=WS c (m+1);go_simp;try go_bits
   exact hC
  simp only[AX,AI,AH];refine Cr BC ?_ (λ_ _ h=>by cases h) rfl rfl ?_ ?_;rotate_left 1
  .intro w' V C hC;go_simp;try go_bits
   exact hC
  simp only[AX,AI,AH];intro w4 ax;simp only[C6];intro vv aM;have G:=AM T T.size (BY ax);clear aM ax O aw;have am:=WO c (m+1) gd;rw[<-ae.o]at HG;obtain⟨nm,ab⟩:=ia (F2 c (m+1));rw[ab]at am HG ⊢;have ao:=HE.o.low G;have ay:=HS.o.keep G;have az:RdP w4 (λk=>k≠sb/\k≠mb) A bs.length k bs:=((HR.o.low G).imp (Q:=λk=>k≠sb/\k≠mb) (λj hj _=>⟨λq=>hj (by rw[q];exact HE.o.m1),λq=>hj (by rw[q];exact HE.o.m2)⟩)).p;have aB:=(G.cell (p:=gX cb 0) hcb.1).trans c0;have aN:cb<w4.heap.size:=AV hcb.1 G.size;have aO:=AB G;have aP:=AB ao.hP;have aQ:=AB ao;clear ab G T hb1 ao;clear ae aL c0;go_wp2_with fail
  refine(Vf _ w4 sb mb N s ay aP.o gd nm am A k bs az).mono ?_;rintro e w5 ⟨rfl,hS5,O5⟩;have aR:=(O5.cell (p:=gX cb 0) aN hcb.2.1 hcb.2.2).trans aB;have aC:=WF HE.o.fit nm bs;have af:=aQ.o.on hS5 (show N+1<=K+1 by omega) O5 aC;unfold So.stage2 at HG;obtain⟨r,hr⟩:=ia (s.put nm bs);rw[hr]at HG hS5 af ⊢;obtain⟨s5,e5⟩:=r;dsimp only at HG hS5 af ⊢;have M5:dI (Ms sb mb) w w5:=(dI.of aO.o).trans (.ost O5);have ap:=AB af;clear ay az aB hr aC af O5;by_cases h5:e5=0
  .subst h5;have Z:=AB (HG.o.trans (AE gj));(go_wp2_with fail);refine(Vh _ w5 sb mb (N+1) s5 hS5 gd nm am).mono ?_;rintro e w6 ⟨rfl,hS6,O6⟩;have aD:=WH ap.o.fit nm;have ag:=ap.o.on hS6 (show N+1+1<=K+2 by omega) O6 aD;obtain⟨r,hr⟩:=ia (s5.sync nm);rw[hr]at Z ag ⊢;obtain⟨s6,e6⟩:=r;dsimp only at Z ag ⊢;have M6:dI (Ms sb mb) w w6:=M5.trans (.ost O6);have aE:=AB ag;clear hS5 hS6 hr aD ag O6 aR;by_cases h6:e6=0
   .subst h6;have aq:=AB (Z.o.trans (AE gj));(go_wp2_with fail);go_ret2;rw[aq.o];exact⟨rfl,aE.o,M6⟩
   have:=gM e6 0;have aq:=AB (Z.o.trans (AJ h6));clear h6;(go_wp2_with fail);go_ret2;rw[aq.o];exact⟨rfl,aE.o,M6⟩
  have:=gM e5 0;have Z:=AB (HG.o.trans (AJ h5));clear h5 hS5;go_wp2_with fail
  go_ret2;rw[Z.o];exact⟨rfl,ap.o.more gd,M5⟩
theorem Wg (w B g c l)(ho:w.ownsRow B 97 6 (.slice (gY g 0) l.length c) l.length (Ax l))(hmax:l.length<=1000000)(fn lb p)(eg:∀args w,(callFunc fn args).run prog w = .ok (.enter fn args) w)(hp:Jr w g fn lb p):
 Calls prog 98 #[.slice (gY g 0) l.length c,.func (.func fn) #[] lb] w λe w'=>∃l',l'=l.filter (λf=>!p f)/\e = .returned (.slice (gY g 0) l'.length c)/\w'.ownsRow B 97 6 (.slice (gY g 0) l'.length c) l'.length (Ax l')/\Oth g w w':=by
 have aF:=Km ho;go_enter func98,ntmps98;go_wp2_with fail
 refine(Lc w l.length c (gY g 0) l (Ay ho) hmax fn lb p eg (λW f hb=>(hp W f (Oth.of hb)).mono λe w' h=>⟨h.1,AM hb hb.size h.2⟩)).mono ?_;rintro e w1 ⟨rfl,hb1⟩;have O1:=Ag ho hb1;rcases Nu p l with ⟨k,ad,hk⟩|ae
 .rw[ad];obtain⟨_,ai,aj⟩:=Ny ad;have ax:=AB (O2 hk ai aj);have ak:((k:Int) == -1)=false:=by rw[AQ];omega
  have HP:=AB hp;clear ad ai aj hp;go_wp2_with fail
  go_loopw [5,6] (λiv jv wr=>∃(i j:Nat) (arr:List El),iv = io i/\jv = io j/\i<j/\j<=l.length/\ga (arr.length=l.length)/\ga (arr.take i=(l.take j).filter (λf=>!p f))/\ga (arr.drop j=l.drop j)/\wr.ownsRow B 97 6 (.slice (gY g 0) l.length c) l.length (Ax arr)/\Oth g w wr) (λ_ jv _=>l.length-(intOf jv).toNat);case atStart=>exact⟨k,k+1,l,rfl,by go_num,gd,hk,AB rfl,AB ax.o.symm,AB rfl,O1,Oth.of hb1⟩
  case round=>
   clear ak;obtain⟨i,j,arr,rfl,rfl,aG,hj,T,af,ag,O,V⟩:=hrel;by_cases aa:j<l.length
   .obtain⟨f0,f1,f2,f3,f4,f5⟩:=Ld O T.o aa;rw[OC ag.o]at f0 f1 f2 f3 f4 f5;have am:=OB (p:=p) aa;generalize hf:l.getD j default=f at *;have HF:=AB hf;have ao:=AB am;clear hf am;obtain⟨y,ah⟩:=gZ wr (eNV f.p f.A f.c) 97;have O5:=Ag O ah;have I:=V.trans (Oth.of ah);obtain⟨g0,g1,g2,g3,g4,g5⟩:=y.c6;have G:=HP.o _ f I;cases hq:p f with
    | true=>
      rw[hq]at G;have HQ:=AB hq;clear hq;(go_wp2_with fail);refine G.mono ?_;rintro e w6 ⟨rfl,hb6⟩;(go_wp2_with fail);go_roundw;case rel=>
       refine⟨i,j+1,arr,rfl,by go_num,gd,aa,T,AB ?_,AB (JN ag.o),Ag O5 hb6,I.trans (Oth.of hb6)⟩;rw[ao.o,HQ.o,af.o];simp
      case measure=>simp[intOf];omega
    | false=>
      rw[hq]at G;have HQ:=AB hq;clear hq;(go_wp2_with fail);refine G.mono ?_;rintro e w6 ⟨rfl,hb6⟩;have O6:=Ag O5 hb6;have y6:=y.keep hb6 y.z;have Z:=I.trans (Oth.of hb6);generalize wr.heap.size=b5 at *;clear f0 f1 f2 f3 f4 f5 g0 g1 g2 g3 g4 g5 G;obtain⟨g0,g1,g2,g3,g4,g5⟩:=y6.c6;obtain⟨f0,f1,f2,f3,f4,f5⟩:=Ld O6 T.o (show i<l.length by omega);have r0:=De O6 (i * 6);have r1:=De O6 (i * 6+1);have r2:=De O6 (i * 6+2);have r3:=De O6 (i * 6+3);have r4:=De O6 (i * 6+4);have r5:=De O6 (i * 6+5);have ap:=gR O6 Z;have aq:i<l.length:=gd;clear O O5 O6 V I Z y y6 ah hb6;(go_wp2_with fail);go_roundw;case rel=>
       have O7:=Du (Du (Du (Du (Du (Du ap.o.1 (i * 6) (.string f.p.name)) (i * 6+1) (.bool f.p.keys)) (i * 6+2) (il f.p.seq.toNat)) (i * 6+3) (io f.p.rows.toInt)) (i * 6+4) (im f.p.sch.toNat)) (i * 6+5) (.slice f.A f.p.stats.length f.c);rw[Q9 f rfl arr i (by rw[T.o];exact aq)]at O7;refine⟨i+1,j+1,arr.set i f,by go_num,by go_num,gd,aa,AB (by rw[List.length_set];exact T.o),AB ?_,AB ?_,O7,?_⟩
       .rw[ao.o,HQ.o,<-af.o,Cn,List.take_set_of_le (AD _)];have:i<arr.length:=by rw[T.o];exact aq
        simp[this]
       .rw[List.drop_set_of_lt gd];exact JN ag.o
       exact(((((ap.o.2.trans (EE _ _ _ _)).trans (EE _ _ _ _)).trans (EE _ _ _ _)).trans (EE _ _ _ _)).trans (EE _ _ _ _)).trans (EE _ _ _ _)
      case measure=>simp[intOf];omega
   obtain rfl:j=l.length:=gd;have ar:l.length<=c:=(Ay O).le;have ay:c≠i:=gd;have az:=λW=>I9 E4 (gY g 0) l.length c .i64 (i:Int) i rfl gd ar W;have au:=λW=>Iu E4 (gY g 0) l.length c .i64 (i:Int) i rfl gd ar W;simp only[AE ay,Option.map_some,DF,BL]at az au;have aH:=λW=>Ev E4 (gY g 0) l.length c .i64 (i:Int) i rfl gd W;have aE:=λW=>EN E4 (gY g 0) l.length c .i64 (i:Int) i rfl gd W;have av:i * 6+(l.length-i) * 6=l.length * 6:=gd;obtain⟨L,aB⟩:=Wf wr g (i * 6) (l.length-i) (c-i) gd (λt ht=>Nw O gd) (λt _=>De O _);have HO:=gR O V;clear O V av;go_wp2_with (simp only[aB])
   go_ret;obtain⟨aI,h',aC,aD⟩:=Kr L wr (Ax arr) (i * 6) HO.o.1;have aw:l.filter (λf=>!p f)=arr.take i:=by have:=af.o;rw[E8]at this;exact this.symm
   have ab:(arr.take i).length=i:=by rw[BN,T.o];omega
   refine⟨arr.take i,aw.symm,?_,?_,HO.o.2.trans aD⟩
   .rw[ab];rfl
   rw[ab];have:=Nv h' (i:=i) gd;rw[aC _ (AD _),QA]at this;exact this
 rw[ae];have HE:=AB (Nz ae);clear ae;go_wp2_with fail
 go_ret;exact⟨l,HE.o.symm,rfl,O1,Oth.of hb1⟩
theorem Wl (P w sb cb c)(h:An w P cb sb c)(hok:c.t.ok):Calls prog 12 #[iq cb 0] w (Wk w c.t):=by
 obtain⟨sA,sc,ss,nA,nc,ns,hx,hT,e1,e2⟩:=h;have T:=hok.bd e1 e2;obtain⟨-,c1,c2,c3⟩:=hx.c4;have ah:cb<w.heap.size:=hx.z;obtain⟨y,G⟩:=gZ w Aa 39;have ai:=hT.low G;have HD:=gR e1 e2;clear hx hT hok e1 e2;go_enter func12,ntmps12;go_upto_region 1 with fail
 have d1:=(G.cell (p:=gX cb 1) ah).trans c1;have d2:=(G.cell (p:=gX cb 2) ah).trans c2;have d3:=(G.cell (p:=gX cb 3) ah).trans c3;have aj:w.heap.size<(w.alloc (.cells Aa 39)).heap.size:=gj;generalize w.alloc _=w1 at *;obtain⟨yb,V⟩:∃b,b=w.heap.size:=⟨_,rfl⟩;rw[<-V]at y aj;clear c1 c2 c3;have ak:=Pi w1 sA sc ss nA nc ns c.t.cur ai.tab (by have:=T.s16;omega) (λs hs=>by have:=(T.f8 s hs).2;omega) (by have:=T.n32;omega) (λs hs=>by have:=T.m8 s hs;omega) [] none 0 (Rd.nil _ _ _) gm;have am:=gR G V;rw[<-V];clear ai T V;go_wp2_with fail
 refine ak.mono ?_;rintro e w2 hst;clear ak;unfold Ib at hst;rw[HD.o.2,Wi,AJ rfl,Wj,HD.o.1]at hst;obtain⟨Z,aa,ab,ad,ae,af,rfl,hO,e1,e2,I⟩:=hst;have y2:=y.keep I aj;obtain⟨z,O⟩:=gZ w2 (dP Z ab.length aa ad af.length ae c.t.cur.toNat) 39;have y3:=y2.keep O y2.z;have ag:=hO.keep O;clear d1 d2 d3 y2 hO;go_upto_region 2 with fail
 have:w2.heap.size≠yb:=by have:=y.z;have:=I.size;omega
 generalize w2.alloc _=w3 at *;obtain⟨z0,z1,z2⟩:=z.c3;obtain⟨r0,r1,r2⟩:=y3.c3;obtain⟨f0,f1,f2⟩:=y3.f3;have HF:=gV ag I O y3 e1 e2;clear ag I O y3 e1 e2 y z;go_wp2_with fail
 obtain⟨ag,I,O,y3,e1,e2⟩:=HF.o;have G:=am.o.1;have V:=am.o.2;refine AW (Nh (b:=yb) rfl _ _ rfl (y3.set3b (v0:=.slice Z ab.length aa) (v1:=.slice ad af.length ae) (v2:=il c.t.cur.toNat))) rfl ?_;refine⟨Z,aa,ab,ad,ae,af,rfl,?_,e1,e2,?_⟩
 .exact(ag.set3b gd).base gd
 exact BV (AM (AM G G.size I) (by have:=G.size;have:=I.size;omega) O) gd
theorem QG (M w sb mb cb K s)(h:Env M w sb mb K s)(c0:w.cell? (gX cb 0)=some (iq sb 0))(hcb:cb<w.heap.size)(p A k)(hr:dM w (λk=>¬M k) 1 A p.ms.length k (AY p.ms))(hm:p.ms.length<=8)(hn:∀x∈p.ms,x.size<=24):
 Calls prog 74 #[iq cb 0,.agg (dO p A k)] w (Js w (s.entries p.ms)):=by
 have HE:=gR h hr;have C0:=AB c0;clear h hr;obtain⟨y,ar⟩:=gZ w (dO p A k) 43;have y6:=y.cell 6 _ rfl;obtain⟨ms,aB⟩:=ia p.ms;unfold dO at ar y ⊢;rw[aB]at hm hn y6 HE ar ⊢;rw[aB]at y;clear y;go_enter func74,ntmps74;go_upto_region 3 with fail
 generalize w.alloc _=w1 at *;clear y6;go_loopw [6,15] (λv6 iv wr=>∃(i:Nat) (oA:Option Addr) (oc:Nat) (out:List Ll),v6 = .slice oA out.length oc/\iv = io i/\i<=ms.length/\out.length<=i/\ga (s.ents ms []=s.ents (ms.drop i) (out.map λx=>x.l.map El.p))/\wr.ownsRow w.heap.size 46 1 (.slice oA out.length oc) out.length (Fe out)/\ga (∀x∈out,dQ wr w.heap.size x.A x.c x.l/\EnOk (x.l.map El.p))/\Below w.heap.size w wr) (λ_ iv _=>ms.length-(intOf iv).toNat);case atStart=>exact⟨0,none,0,[],rfl,rfl,AU _,AD _,AB rfl,Av _ _ _ _,AB gj,ar⟩
 case round=>
  clear ar;obtain⟨i,oA,oc,out,rfl,rfl,hi,aQ,ao,ag,G,I⟩:=hrel;by_cases ap:i<ms.length
  .obtain⟨nm,aC⟩:=ia (ms.getD i ByteArray.empty);have ab:ms[i]? = some nm:=by rw[<-aC,BW,BF ap];rfl
   have aD:ms.drop i=nm::ms.drop (i+1):=by
    rw[List.drop_eq_getElem_cons ap];rw[BF ap]at ab;injection ab with ab;rw[ab]
   obtain⟨b,off,rfl,hb,hc⟩:=(HE.o.2.low I).rd.at_ gd;have au:=hc i (.string nm) (by unfold AY;rw[DY,ab];rfl);have:=hn nm (List.mem_of_getElem? ab);have ai:=HE.o.1.low I;obtain⟨N,hN,hS⟩:=ai.st;have aM:=(I.cell (p:=gX cb 0) hcb).trans C0.o;have aj:=PX _ wr sb mb N s hS nm gn (Pb ai.fit.sm);have aE:=Q4 ai.fit nm;have av:ga (s.ents ms []=s.ents (nm::ms.drop (i+1)) (out.map λx=>x.l.map El.p)):=AB (by rw[<-aD];exact ao.o);obtain⟨r,hr⟩:=ia (s.get nm);rw[hr]at aj aE;obtain⟨bs,e2⟩:=r;dsimp only at aE;have HR:=AB hr;have aN:=AB ai;clear hc hb ab aC aD hr ao hS ai;(go_wp2_with fail);refine aj.mono ?_;rintro e w2 ⟨hb2,A2,k2,rfl,hown2⟩;dsimp only at hown2 ⊢;have aw:=Ay hown2;have ax:=aN.o.low hb2;have Z:=AM I I.size hb2;have ad:=Ag ag hb2;have O:ga (∀x∈out,dQ w2 w.heap.size x.A x.c x.l/\EnOk (x.l.map El.p)):=AB λx hx=>⟨(G.o x hx).1.keep hb2,(G.o x hx).2⟩;clear hown2 aj au aM ag G I;by_cases h0:e2=0
   .subst h0;have aF:=VM w2 A2 k2 bs aw ax.tb.crc gd;have ak:=QB bs;clear aw ax;(go_wp2_with fail);refine aF.mono ?_;rintro e w3 ⟨hb3,A3,k3,ls,rfl,T,_,hO3⟩;obtain⟨o,ho⟩:=ia (opE bs);rw[ho]at T ak ⊢;obtain⟨e4,L⟩:=o;dsimp only at T ak ⊢;have aa:=AM Z Z.size hb3;have ae:=Ag ad hb3;have V:ga (∀x∈out,dQ w3 w.heap.size x.A x.c x.l/\EnOk (x.l.map El.p)):=AB λx hx=>⟨(O.o x hx).1.keep hb3,(O.o x hx).2⟩;have am:=hO3.base (B2:=w.heap.size) Z.size;clear aF ad O hO3 hb3 Z;by_cases h4:e4=0
    .subst h4;have aG:ga (s.ents ms []=s.ents (ms.drop (i+1)) ((out++[(⟨ls,A3,k3⟩:Ll)]).map λx:Ll=>x.l.map El.p)):=AB (by
      rw[av.o,QD (by rw[HR.o]) (by rw[HR.o];show(opE bs).1=0;rw[ho]),HR.o];show s.ents _ (_++[(opE bs).2])=_;rw[ho,Cv];show s.ents _ (_++[L])=s.ents _ (_++[ls.map El.p]);rw[T])
     have ah:=hI w3 (.cells #[.slice A3 ls.length k3] 46);have aq:=Ag ae ah;have aH:Rd (w3.alloc (.cells #[.slice A3 ls.length k3] 46)) (w3.heap.size+1) 1 (gY w3.heap.size 0) 1 1 (llV ⟨ls,A3,k3⟩):=Rd.lit (n:=1) (sz:=1) w3 46 #[.slice A3 ls.length k3] rfl gn;have aI:w.heap.size<=(w3.alloc (.cells #[.slice A3 ls.length k3] 46)).heap.size:=AS aa.size ah.size;have HB:=AB (AM aa aa.size ah);have HI:ga (∀x∈out++[(⟨ls,A3,k3⟩:Ll)],dQ (w3.alloc (.cells #[.slice A3 ls.length k3] 46)) w.heap.size x.A x.c x.l/\EnOk (x.l.map El.p)):=AB (λx hx=>by
      rcases List.mem_append.1 hx with hx|hx
      .exact⟨(V.o x hx).1.keep ah,(V.o x hx).2⟩
      .rw[BS.1 hx];exact⟨am.keep ah,by show EnOk (ls.map El.p);rw[T];exact ak⟩)
     clear ho ak T ae V am ah aa;go_wp2_with (at_builtin;refine Aw _ Le rfl (.tmp 39) (.tmp 41) rfl w.heap.size _ out.length (Fe out) rfl aq (w3.heap.size+1) _ 1 1 (llV ⟨ls,A3,k3⟩) rfl aH (λu hu=>by rw[BS.1 hu];rfl) gd aI ?_;intro v8 w8 af ay _)
     have aO:=Au HB.o (AD _) aq ay aI;have e1:(out++[(⟨ls,A3,k3⟩:Ll)]).length=out.length+1:=gj;have e2:Fe (out++[(⟨ls,A3,k3⟩:Ll)])=Fe out++llV ⟨ls,A3,k3⟩:=by simp[Fe]
     obtain⟨g,cap,rfl,_,_⟩:=af.form gd;have az:w8.ownsRow w.heap.size 46 1 (.slice (gY g 0) (out++[(⟨ls,A3,k3⟩:Ll)]).length cap) (out++[(⟨ls,A3,k3⟩:Ll)]).length (Fe (out++[(⟨ls,A3,k3⟩:Ll)])):=by rw[e1,e2];exact af
     have aP:=AB (show ∀x∈out++[(⟨ls,A3,k3⟩:Ll)],dQ w8 w.heap.size x.A x.c x.l/\EnOk (x.l.map El.p) from λx hx=>⟨(HI.o x hx).1.grown aq ay,(HI.o x hx).2⟩);rw[<-e1];clear af ay aq aH;(go_wp2_with fail);go_roundw;case rel=>exact⟨i+1,some ⟨g,0,none⟩,cap,out++[⟨ls,A3,k3⟩],rfl,by go_num,ap,by rw[e1];omega,aG,az,aP,aO⟩
     case measure=>simp[intOf];omega
    have:=gM e4 0;have HG:=AB (QE (s:=s) (ms:=ms) (e:=e4) (by rw[av.o,Wn (by rw[HR.o]) (by rw[HR.o];show(opE bs).1≠0;rw[ho];exact h4),HR.o];show([],(opE bs).1)=_;rw[ho]) h4);clear h4 ho ak T ae V am;(go_wp2_with fail);go_ret2;rw[HG.o];exact⟨none,0,[],rfl,dQ.nil _ _,rfl,aa⟩
   have:=gM e2 0;have HG:=AB (QE (s:=s) (ms:=ms) (e:=e2) (by rw[av.o,Wm (by rw[HR.o];exact h0),HR.o]) h0);clear h0 aw ax ad O;(go_wp2_with fail);go_ret2;rw[HG.o];exact⟨none,0,[],rfl,dQ.nil _ _,rfl,Z⟩
  have aJ:i=ms.length:=gd;have HG:=AB (QF (s:=s) (ms:=ms) (L:=out.map λx=>x.l.map El.p) (by rw[ao.o,aJ,List.drop_length];rfl));have aK:=VS wr oA oc out (Ay ag) (λx hx=>(G.o x hx).1.rd) (λx hx y hy=>by have:=(G.o x hx).2.nm y.p (CG.2 ⟨y,hy,rfl⟩);omega) (out.map λx=>x.l.map El.p) rfl (by
   have h1:=QC (out.map λx=>x.l.map El.p) (λl hl=>by obtain⟨x,hx,rfl⟩:=CG.1 hl;exact(G.o x hx).2.len);rw[Ae]at h1;omega)
  clear ao ag G aJ;go_wp2_with fail
  refine aK.mono ?_;rintro e w3 ⟨hb3,A3,k3,ls,rfl,T,hO3⟩;clear aK;have aL:=AM I I.size hb3;have HF:=gS (hO3.base (B2:=w.heap.size) I.size) T aL;clear hO3 T aL;go_wp2_with fail
  go_ret2;rw[HG.o];exact⟨A3,k3,ls,rfl,HF.o.1,HF.o.2.1,HF.o.2.2⟩
theorem QN (P w)(hP:∀k,w.heap.size<=k->P k)(sb cb c)(hc:An w P cb sb c)(bB:c.t.ok)(l A k)(hr:dM w P 4 A l.length k (AZ l)):
 Calls prog 42 #[iq cb 0,.slice A l.length k] w (If P w (B1 c.t l)):=by
 obtain⟨sA,sc,ss,nA,nc,ns,hx,hT,e1,e2⟩:=hc;have bP:l.length<=9223372036854775807:=by have h1:=hr.rd.le;have h2:=hr.rd.cap;unfold maxLen at h2;omega
 obtain⟨-,c1,c2,c3⟩:=hx.c4;have bj:cb<w.heap.size:=hx.z;obtain⟨y4,aN⟩:=gZ w Aa 39;have bk:=(hT.imp (Q:=λk=>P k/\k≠w.heap.size) (λk hp hl=>⟨hp,gd⟩)).low aN;have HR:=AB hr;have a8:=gT hT e1 e2 bB;clear hx hT hr e1 e2;go_enter func42,ntmps42;go_upto_region 1 with fail
 have d1:=(aN.cell (p:=gX cb 1) bj).trans c1;have d2:=(aN.cell (p:=gX cb 2) bj).trans c2;have d3:=(aN.cell (p:=gX cb 3) bj).trans c3;have bC:w.heap.size<(w.alloc (.cells Aa 39)).heap.size:=gj;generalize w.alloc _=w1 at *;obtain⟨b4,bl⟩:∃b,b=w.heap.size:=⟨_,rfl⟩;have a9:=AB bl;rw[<-bl]at y4 bC bk ⊢;clear bl;have bD:=aN.size;obtain⟨y6,ba⟩:=gZ w1 (dP sA ss.length sc nA ns.length nc c.t.cur.toNat) 39;have bE:=y4.keep ba y4.z;have bF:=bk.low ba;have bG:=AM aN aN.size ba;clear c1 c2 c3 y4 bk bB;go_upto_region 3 with fail
 generalize w1.alloc _=w2 at *;obtain⟨b6,ag⟩:∃b,b=w1.heap.size:=⟨_,rfl⟩;rw[<-ag]at y6 ⊢;have bQ:b4<b6:=gd;have H6:ga (w.heap.size<=b6):=AB gd;clear d1 d2 d3 aN ba bC ag bD;clear w1;go_loopw [17] (λiv wr=>∃(i:Nat) (t:Tb) (sA:Option Addr) (sc:Nat) (ss:List Sl) (nA:Option Addr) (nc:Nat) (ns:List Nl),iv = io i/\i<=l.length/\ga (B1 c.t l=B1 t (l.drop i))/\ga t.ok/\dH wr b6 [.slice sA ss.length sc,.slice nA ns.length nc,il t.cur.toNat]/\dJ wr (λk=>P k/\k≠b4) sA sc ss nA nc ns/\ga (ss.map dK=t.ss)/\ga (ns.map dL=t.ns)/\dH wr b4 [ir,ir,il 0]/\Below w.heap.size w wr) (λiv _=>l.length-(intOf iv).toNat);case atStart=>exact⟨0,c.t,sA,sc,ss,nA,nc,ns,rfl,AU _,AB rfl,AB a8.o.2.2.2,y6,bF,AB a8.o.2.1,AB a8.o.2.2.1,bE,bG⟩
 case round=>
  clear y6 bF bE bG;clear a8;obtain⟨i,t,sA,sc,ss,nA,nc,ns,rfl,hi,hw,bH,y6,hT,e1,e2,y4,aZ⟩:=hrel;have V:=bH.o.bd e1.o e2.o;have z4:=y4.z;have z6:=y6.z;by_cases a0:i<l.length
  .obtain⟨b,off,rfl,hb,hx⟩:=Rd.el fdV 4 Gy (HR.o.low aZ).rd a0 gd;have bm:l.drop i=l.getD i default::l.drop (i+1):=by
    rw[List.drop_eq_getElem_cons a0,BW,BF a0];rfl
   obtain⟨f,hf⟩:=ia (l.getD i default);rw[hf]at bm hx;have x0:=hx 0 _ rfl;rw[Nat.add_zero]at x0;have x1:=hx 1 _ rfl;have x2:=hx 2 _ rfl;have x3:=hx 3 _ rfl;have aR:ga (B1 c.t l=B1 t (f::l.drop (i+1))):=AB (by rw[hw.o,bm]);obtain⟨y8,I⟩:=gZ wr (fDV f) 89;have ao:=y4.keep I z4;have aq:=y6.keep I z6;have ay:=hT.low I;have ai:=AM aZ aZ.size I;clear hx bm hf hb hw hT y4 y6 aZ;(go_upto_region 5 with fail);generalize wr.alloc _=w3 at *;have bM:wr.heap.size≠b4/\wr.heap.size≠b6:=⟨gd,gd⟩;generalize wr.heap.size=b8 at *;clear x0 x1 x2 x3 I z4 z6;obtain⟨g0,g1,g2,g3⟩:=y8.c4;obtain⟨r0,r1,r2⟩:=ao.c3;obtain⟨f0,f1,f2⟩:=ao.f3;have T:ga (∀(er:Nat),B1 c.t l=(default,er)->If P w (B1 c.t l) (.returned (.tuple #[.agg Aa,io er])) (set3b w3 b4 ir ir (il 0))):=AB (λer h=>by
    rw[h];exact⟨none,0,[],none,0,[],rfl,.nil _ _,rfl,rfl,BV ai (by have:=a9.o;omega)⟩)
   by_cases aw:f.id≠0\/f.need=true
   .have HG:=AB (T.o 1 (by rw[aR.o,Wp aw]));have bn:=ao.set3b (v0:=ir) (v1:=ir) (v2:=il 0);have az:=AB bn;by_cases aO:(f.id.toNat:Int)=0
    .have a1:f.need=true:=by
      rcases aw with h|h
      .exact absurd (UInt32.toNat_inj.1 (show f.id.toNat=(0:UInt32).toNat by simpa using aO)) h
      exact h
     have be:((f.id.toNat:Int) != 0)=false:=by simp[aO]
     rw[a1]at g3;clear aw aO bn T a1 ao aq y8 ay ai;(go_wp2_with fail);refine AW (BA (b:=b4) rfl _ _ rfl az.o) rfl ?_;exact HG.o
    have be:((f.id.toNat:Int) != 0)=true:=by rw[Am];exact aO
    clear aw aO bn T ao aq y8 ay ai;(go_wp2_with fail);refine AW (BA (b:=b4) rfl _ _ rfl az.o) rfl ?_;exact HG.o
   have a1:f.need=false:=by
    cases h:f.need with
    | false=>rfl
    | true=>exact absurd (.inr h) aw
   have be:((f.id.toNat:Int) != 0)=false:=by
    have:f.id=0:=Classical.byContradiction λh=>aw (.inl h);rw[this];rfl
   rw[a1]at g3;have aD:=AB aw;clear aw a1;have u0:=aq.cell 0 _ rfl;have z6:=aq.z;have z8:=y8.z;obtain⟨x,bg⟩:=ia (ss.getD (ss.length-1) default);have bN:=V.s1;have O:=QM e1.o V.s1;rw[bg]at O;have bo:x∈ss:=by rw[<-bg];exact B9 gd
   have bh:=(ay.si x bo).rd;obtain⟨rb,ro,rfl,ar,bi⟩:=Rd.el slV 2 GY ay.s.rd (i:=ss.length-1) gd gd;rw[bg]at bi;have s0:=bi 0 _ rfl;rw[Nat.add_zero]at s0;have s1:=bi 1 _ rfl;have bO:IntKind.i64.wrap ((ss.length:Int)-1)=((ss.length-1:Nat):Int):=by
    have bR:=V.s16;rw[IntWalk.i64_in _ ⟨gd,gd⟩];omega
   have bS:ss.length-1<ss.length:=gd;have bI:=gT O ay ai V;have HY:=gS ao aq y8;clear bg bi O ay ai V ao aq y8;(go_upto_region 7 with fail);have V:=(AC w3.heap.size w3).drew;have zd:w3.drew.heap.size=w3.heap.size:=rfl;refine wp_region_held_drew (S:=λw'=>w'.cell? (gX b6 0)=some (.slice (gY rb ro) ss.length sc)/\w'.cell? (gX b8 1)=some (.string f.name)/\w'.cell? (gX b8 2)=some (ip f.kind.toNat)/\w'.cell? (gX rb (ro+(ss.length-1) * 2))=some (im x.id.toNat)/\w'.cell? (gX rb (ro+(ss.length-1) * 2+1))=some (.slice x.A x.fs.length x.c)) gh ?_ (λhHeld=>?_)
   .exact⟨u0,g1,g2,s0,s1⟩
   refine tK 0 ?_;refine tK 1 ?_;refine tK 2 ?_;refine tK 3 ?_;refine tK 4 ?_;refine tK 5 ?_;refine tK 6 ?_;refine tK 7 ?_;refine tK 8 ?_;refine tK 9 ?_;refine tK 10 ?_;refine tK 11 ?_;refine wpAnyH_ready (rs:=[12,16]) gh gj ?_;refine AllReadyH.cons rfl (λK hK=>?_) (AllReadyH.cons rfl (λK hK=>?_) AllReadyH.nil)
   .have aB:Below w3.heap.size w3 w3.drew:=V;go_simp;go_at_call 91;refine(Ph w3.drew x.id x.fs.length x.c x.A x.fs ((bh.below' aB (AD _)).more aB.size) f.name f.kind.toNat f.kind.toNat_lt).mono ?_;rintro e wq ⟨v,rfl,⟨A9,c9,rfl,hr9⟩,hbq⟩;have aE:=AM aB aB.size hbq;refine hK.out _ _ ⟨(aE.cell (p:=gX b6 0) z6).trans u0,(aE.cell (p:=gX b8 1) z8).trans g1,(aE.cell (p:=gX b8 2) z8).trans g2,(aE.cell (p:=gX rb (ro+(ss.length-1) * 2)) ar).trans s0,(aE.cell (p:=gX rb (ro+(ss.length-1) * 2+1)) ar).trans s1⟩ (λhHeld=>?_);clear hK K;refine ie ?_;refine tK 13 ?_;refine tK 14 ?_;refine tK 15 ?_;refine rD 16 λK hK=>?_;go_simp;have I:=aE.alloc aE.size (.cells B3 33);have y9:=AP wq B3 33;have aS:=(hr9.alloc (AD _) (.cells B3 33)).more (show wq.heap.size<=(wq.alloc (.cells B3 33)).heap.size by simp);have aC:∀g off,0<(Bu x.id x.fs f.name f.kind.toNat).length->A9=some ⟨g,off,none⟩->g≠wq.heap.size:=λg off h0 q=>by obtain⟨b2,o2,e,bT,_⟩:=hr9.at_ h0;rw[q]at e;injection e with e;injection e with e;omega
    have a2:w3.heap.size<=wq.heap.size:=aE.size;refine hK.out _ _ ⟨(I.cell (p:=gX b6 0) z6).trans u0,(I.cell (p:=gX b8 1) z8).trans g1,(I.cell (p:=gX b8 2) z8).trans g2,(I.cell (p:=gX rb (ro+(ss.length-1) * 2)) ar).trans s0,(I.cell (p:=gX rb (ro+(ss.length-1) * 2+1)) ar).trans s1⟩ (λhHeld=>?_);clear hK K;refine ie ?_;generalize wq.alloc _=wA at *;generalize wq.heap.size=b9 at *;clear hr9 aE hbq aB;have a3:=I.size;have n6:b6≠b9:=gd;have m6:b6<wA.heap.size:=gd;have m8:b8<wA.heap.size:=gd;have mr:rb<wA.heap.size:=gd;have n8:b8≠b9:=gd;have nr:rb≠b9:=gd;obtain⟨Z,aj⟩:=ia (Bu x.id x.fs f.name f.kind.toNat);obtain⟨aa,au⟩:=ia (C8 x.id x.fs f.name f.kind.toNat);obtain⟨er,aF⟩:=ia (Bk x.id x.fs f.name f.kind.toNat);(try simp only[aj,au,aF]);(try simp only[aj]at aS aC);have o9:=((Oth.refl b9 wA).set 0 (im aa.toNat)).set 1 (.slice A9 Z.length c9);have aT:=(y9.set (j:=0) (im aa.toNat) rfl).set (j:=1) (.slice A9 Z.length c9) rfl;obtain⟨d0,d1⟩:=y9.c2;obtain⟨k0,k1⟩:=y9.f2;refine wpAnyH_ready (rs:=[17]) gw gj ?_;refine AllReadyH.cons rfl (λK hK=>?_) AllReadyH.nil;go_simp;refine hK.out _ _ ⟨(o9.cell (p:=gX b6 0) m6 n6).trans ((I.cell (p:=gX b6 0) z6).trans u0),(o9.cell (p:=gX b8 1) m8 n8).trans ((I.cell (p:=gX b8 1) z8).trans g1),(o9.cell (p:=gX b8 2) m8 n8).trans ((I.cell (p:=gX b8 2) z8).trans g2),(o9.cell (p:=gX rb (ro+(ss.length-1) * 2)) mr nr).trans ((I.cell (p:=gX rb (ro+(ss.length-1) * 2)) ar).trans s0),(o9.cell (p:=gX rb (ro+(ss.length-1) * 2+1)) mr nr).trans ((I.cell (p:=gX rb (ro+(ss.length-1) * 2+1)) ar).trans s1)⟩ (λhHeld=>?_);clear hK K;refine ie ?_;refine wpAnyH_take (i:=18) (v:=?_) rfl gw gw gw (λ_ _ _ h=>h) (Or.inl ⟨by rfl,?_⟩) hHeld ?_;rotate_left 1
    ·(intro w' hSw;obtain⟨q1,q2,q3,q4,q5⟩:=hSw;go_simp;first|done|with_reducible rfl)
    refine ie ?_;refine wpAnyH_done gw ?_ _;clear hHeld n6 n8 m6 m8 mr nr k0 k1 d0 d1;obtain⟨O,ay,ai,V⟩:=bI.o;obtain⟨ao,aq,y8⟩:=HY.o;have hZ:=I.trans (o9.belowB a2 a3);have aU:=QH aS aC o9;have ap:=ay.low hZ;have G:=AM ai ai.size hZ;have y4:=ao.keep hZ ao.z;have y6:=aq.keep hZ aq.z;clear I o9 ay ai ao aq y8 aS aC y9 a3 a2 u0 g0 g1 g2 g3 f0 f1 f2 r0 r1 r2 s0 s1 T bh be ar;generalize (wA.setCell _ _).setCell _ _=w5 at *;obtain⟨r0,r1,r2⟩:=y4.c3;obtain⟨f0,f1,f2⟩:=y4.f3;have T:ga (∀(er:Nat) (w5:World),Below w.heap.size w w5->B1 c.t l=(default,er)->If P w (B1 c.t l) (.returned (.tuple #[.agg Aa,io er])) (set3b w5 b4 ir ir (il 0))):=AB (λer w5 hb h=>by
     rw[h];exact⟨none,0,[],none,0,[],rfl,.nil _ _,rfl,rfl,BV hb (by have:=a9.o;omega)⟩)
    have ab:Bk t.lastS.1 t.lastS.2 f.name f.kind.toNat=er:=by rw[O];exact aF
    have ad:Bu t.lastS.1 t.lastS.2 f.name f.kind.toNat=Z:=by rw[O];exact aj
    have ae:C8 t.lastS.1 t.lastS.2 f.name f.kind.toNat=aa:=by rw[O];exact au
    by_cases aG:er=0
    .have bp:((er:Int) != 0)=false:=by simp[aG]
     obtain⟨v0,v1,v2⟩:=y6.c3;obtain⟨n0,n1⟩:=aT.c2;obtain⟨e0,aV,aW⟩:=y6.f3;have aP:Z.length<=1000000:=by
      rw[<-aj];have h1:=(V.f8 x bo).2;unfold Bu;split
      .simp;omega
      simp
     have a4:=Pn w5 _ sc ss nA nc ns t.cur.toNat ap.tab (by have:=V.s16;omega) (λs hs=>by have:=(V.f8 s hs).2;omega) (by have:=V.n32;omega) (λs hs=>by have:=V.m8 s hs;omega) aa Z A9 c9 aU aP;have aX:=y4.z;have aY:=y6.z;have bq:=G.size;have av:b6≠b4:=gd;have aQ:=gW ap G y4 y6 ab ad ae;clear ap G y4 y6 ab ad ae aU aP O V aF aj au aT;have bJ:=hZ.size;have bu:b4<w5.heap.size/\b6<w5.heap.size:=⟨aX,aY⟩;(go_upto_region 10 with fail);(go_wp2_with fail);refine a4.mono ?_;rintro e w6 hst;clear a4 v0 v1 v2 n0 n1 e0 aV aW r0 r1 r2 f0 f1 f2;obtain⟨ap,G,y4,y6,ab,ad,ae⟩:=aQ.o;by_cases ak:CT (ss.map dK) (ns.map dL) t.cur.toNat (aa,Z)=0
     .unfold Fh at hst;rw[AJ ak]at hst;obtain⟨aH,aI,aJ,aK,aL,aM,rfl,hO,q1,q2,ag⟩:=hst;have af:=AM G G.size ag;have am:=y4.keep ag aX;have ah:=y6.keep ag aY;obtain⟨v0,v1,v2⟩:=ah.c3;obtain⟨e0,aV,aW⟩:=ah.f3;have bv:((0:Int) != 0)=false:=rfl;have bK:IntKind.i64.wrap ((i:Int)+1)=((i+1:Nat):Int):=by
       rw[IntWalk.i64_in _ ⟨gd,gd⟩];omega
      have HK:=gW hO q1 q2 af am ah ak;clear hO q1 q2 af am ah ak y4 y6 ap G ab ad ae ag T;(go_wp2_with fail);obtain⟨hO,q1,q2,af,am,ah,ak⟩:=HK.o;obtain⟨_,_,_,_,ab,ad,ae⟩:=aQ.o;refine⟨⟨i+1,⟨t.ss++[(aa,Z)],t.ns,t.cur⟩,aH,aI,aJ,aK,aL,aM,by rw[Int.natCast_add];rfl,a0,?_,?_,ah.set3b,.own (hO.set3b bu.2) (λk hk _=>⟨hP k (by have:=bq;omega),gd⟩),?_,?_,((am.else (p:=gX b6 0) av _).else (p:=gX b6 1) av _).else (p:=gX b6 2) av _,BV af H6.o⟩,?_⟩
      .refine AB ?_;rw[aR.o,QK aD.o (by rw[ab];exact aG) (by rw[ae,ad,<-e1.o,<-e2.o];exact ak),ae,ad]
      .refine AB (QL ?_);rw[<-e1.o,<-e2.o];exact ak
      .exact AB (by rw[q1,e1.o])
      .exact AB (by rw[q2,e2.o])
      show l.length-((i:Int)+1).toNat<l.length-(i:Int).toNat
      omega
     unfold Fh at hst;rw[AE ak]at hst;obtain⟨aH,aI,aJ,aK,aL,aM,rfl,hO,q1,q2,ag⟩:=hst;have af:=AM G G.size ag;have am:=y4.keep ag aX;have ah:=y6.keep ag aY;obtain⟨v0,v1,v2⟩:=ah.c3;obtain⟨e0,aV,aW⟩:=ah.f3;obtain⟨r0,r1,r2⟩:=am.c3;obtain⟨f0,f1,f2⟩:=am.f3;have a5:B1 c.t l=(default,CT (ss.map dK) (ns.map dL) t.cur.toNat (aa,Z)):=by
      rw[aR.o,QJ aD.o (by rw[ab];exact aG) (by rw[ae,ad,<-e1.o,<-e2.o];exact ak),ae,ad,<-e1.o,<-e2.o]
     generalize CT (ss.map dK) (ns.map dL) t.cur.toNat (aa,Z)=ge at *;have bv:=gM ge 0;have HG:=AB (T.o ge (set3b w6 b6 (.slice aH aJ.length aI) (.slice aK aM.length aL) (il 0)) (BV af H6.o) a5);have az:=AB ((((am.else (p:=gX b6 0) av (.slice aH aJ.length aI)).else (p:=gX b6 1) av (.slice aK aM.length aL)).else (p:=gX b6 2) av (il 0)).set3b (v0:=ir) (v1:=ir) (v2:=il 0));clear hO q1 q2 af am ah ak y4 y6 ap G ab ad ae ag T a5;(go_wp2_with fail);refine AW (BA (b:=b4) rfl _ _ rfl az.o) rfl ?_;exact HG.o
    have bp:=gM er 0;have HG:=AB (T.o er w5 G (by rw[aR.o,QI aD.o (by rw[ab];exact aG),ab]));have az:=AB (y4.set3b (v0:=ir) (v1:=ir) (v2:=il 0));clear y4 y6 aT hZ aU ap G ab ad ae O V T aF aj au;(go_wp2_with fail);refine AW (BA (b:=b4) rfl _ _ rfl az.o) rfl ?_;exact HG.o
   go_simp;have ax:=(V.alloc (Cz zd.symm) (.cells B3 33));have ax:Below w3.heap.size w3 (w3.alloc (.cells B3 33)).drew:=(hI w3 (.cells B3 33)).drew;have a6:dH (w3.alloc (.cells B3 33)).drew w3.heap.size [im 0,ir]:=by
    have x:=AP w3 B3 33;exact⟨x.cell,x.free,x.z⟩
   have a7:(w3.alloc (.cells B3 33)).drew.heap[w3.heap.size]? = some (.cells B3 33 (0,0)):=heap_alloc_new w3 _;refine hK.out _ _ ⟨(ax.cell (p:=gX b6 0) z6).trans u0,(ax.cell (p:=gX b8 1) z8).trans g1,(ax.cell (p:=gX b8 2) z8).trans g2,(ax.cell (p:=gX rb (ro+(ss.length-1) * 2)) ar).trans s0,(ax.cell (p:=gX rb (ro+(ss.length-1) * 2+1)) ar).trans s1⟩ (λhHeld=>?_);clear hK K;refine ie ?_;generalize (w3.alloc _).drew=wp at *;obtain⟨b9,bw⟩:∃b,b=w3.heap.size:=⟨_,rfl⟩;rw[<-bw]at a6 a7;(try simp only[<-bw]);have a2:w3.heap.size<=b9:=gd;clear bw;have aB:=ax;refine rD 12 λK hK=>?_;go_simp;go_at_call 91;refine(Ph wp x.id x.fs.length x.c x.A x.fs ((bh.below' aB (AD _)).more aB.size) f.name f.kind.toNat f.kind.toNat_lt).mono ?_;rintro e wA ⟨v,rfl,⟨A9,c9,rfl,hr9⟩,hbq⟩;have I:=AM aB aB.size hbq;have y9:=a6.keep hbq a6.z;have aS:=hr9;have aC:∀g off,0<(Bu x.id x.fs f.name f.kind.toNat).length->A9=some ⟨g,off,none⟩->g≠b9:=λg off h0 q=>Wo hr9 ((hbq.block b9 a6.z).trans a7) h0 g off q;refine hK.out _ _ ⟨(I.cell (p:=gX b6 0) z6).trans u0,(I.cell (p:=gX b8 1) z8).trans g1,(I.cell (p:=gX b8 2) z8).trans g2,(I.cell (p:=gX rb (ro+(ss.length-1) * 2)) ar).trans s0,(I.cell (p:=gX rb (ro+(ss.length-1) * 2+1)) ar).trans s1⟩ (λhHeld=>?_);clear hK K;refine ie ?_;clear hr9 aB hbq ax a6 a7;refine tK 13 ?_;refine tK 14 ?_;refine tK 15 ?_;have a3:=I.size;have n6:b6≠b9:=gd;have m6:b6<wA.heap.size:=gd;have m8:b8<wA.heap.size:=gd;have mr:rb<wA.heap.size:=gd;have n8:b8≠b9:=gd;have nr:rb≠b9:=gd;obtain⟨Z,aj⟩:=ia (Bu x.id x.fs f.name f.kind.toNat);obtain⟨aa,au⟩:=ia (C8 x.id x.fs f.name f.kind.toNat);obtain⟨er,aF⟩:=ia (Bk x.id x.fs f.name f.kind.toNat);(try simp only[aj,au,aF]);(try simp only[aj]at aS aC);have o9:=((Oth.refl b9 wA).set 0 (im aa.toNat)).set 1 (.slice A9 Z.length c9);have aT:=(y9.set (j:=0) (im aa.toNat) rfl).set (j:=1) (.slice A9 Z.length c9) rfl;obtain⟨d0,d1⟩:=y9.c2;obtain⟨k0,k1⟩:=y9.f2;refine wpAnyH_ready (rs:=[17]) gw gj ?_;refine AllReadyH.cons rfl (λK hK=>?_) AllReadyH.nil;go_simp;refine hK.out _ _ ⟨(o9.cell (p:=gX b6 0) m6 n6).trans ((I.cell (p:=gX b6 0) z6).trans u0),(o9.cell (p:=gX b8 1) m8 n8).trans ((I.cell (p:=gX b8 1) z8).trans g1),(o9.cell (p:=gX b8 2) m8 n8).trans ((I.cell (p:=gX b8 2) z8).trans g2),(o9.cell (p:=gX rb (ro+(ss.length-1) * 2)) mr nr).trans ((I.cell (p:=gX rb (ro+(ss.length-1) * 2)) ar).trans s0),(o9.cell (p:=gX rb (ro+(ss.length-1) * 2+1)) mr nr).trans ((I.cell (p:=gX rb (ro+(ss.length-1) * 2+1)) ar).trans s1)⟩ (λhHeld=>?_);clear hK K;refine ie ?_;refine wpAnyH_take (i:=18) (v:=?_) rfl gw gw gw (λ_ _ _ h=>h) (Or.inl ⟨by rfl,?_⟩) hHeld ?_;rotate_left 1
   ·(intro w' hSw;obtain⟨q1,q2,q3,q4,q5⟩:=hSw;go_simp;first|done|with_reducible rfl)
   refine ie ?_;refine wpAnyH_done gw ?_ _;clear hHeld n6 n8 m6 m8 mr nr k0 k1 d0 d1;obtain⟨O,ay,ai,V⟩:=bI.o;obtain⟨ao,aq,y8⟩:=HY.o;have hZ:=I.trans (o9.belowB a2 a3);have aU:=QH aS aC o9;have ap:=ay.low hZ;have G:=AM ai ai.size hZ;have y4:=ao.keep hZ ao.z;have y6:=aq.keep hZ aq.z;clear I o9 ay ai ao aq y8 aS aC y9 a3 a2 u0 g0 g1 g2 g3 f0 f1 f2 r0 r1 r2 s0 s1 T bh be ar;generalize (wA.setCell _ _).setCell _ _=w5 at *;obtain⟨r0,r1,r2⟩:=y4.c3;obtain⟨f0,f1,f2⟩:=y4.f3;have T:ga (∀(er:Nat) (w5:World),Below w.heap.size w w5->B1 c.t l=(default,er)->If P w (B1 c.t l) (.returned (.tuple #[.agg Aa,io er])) (set3b w5 b4 ir ir (il 0))):=AB (λer w5 hb h=>by
    rw[h];exact⟨none,0,[],none,0,[],rfl,.nil _ _,rfl,rfl,BV hb (by have:=a9.o;omega)⟩)
   have ab:Bk t.lastS.1 t.lastS.2 f.name f.kind.toNat=er:=by rw[O];exact aF
   have ad:Bu t.lastS.1 t.lastS.2 f.name f.kind.toNat=Z:=by rw[O];exact aj
   have ae:C8 t.lastS.1 t.lastS.2 f.name f.kind.toNat=aa:=by rw[O];exact au
   by_cases aG:er=0
   .have bp:((er:Int) != 0)=false:=by simp[aG]
    obtain⟨v0,v1,v2⟩:=y6.c3;obtain⟨n0,n1⟩:=aT.c2;obtain⟨e0,aV,aW⟩:=y6.f3;have aP:Z.length<=1000000:=by
     rw[<-aj];have h1:=(V.f8 x bo).2;unfold Bu;split
     .simp;omega
     simp
    have a4:=Pn w5 _ sc ss nA nc ns t.cur.toNat ap.tab (by have:=V.s16;omega) (λs hs=>by have:=(V.f8 s hs).2;omega) (by have:=V.n32;omega) (λs hs=>by have:=V.m8 s hs;omega) aa Z A9 c9 aU aP;have aX:=y4.z;have aY:=y6.z;have bq:=G.size;have av:b6≠b4:=gd;have aQ:=gW ap G y4 y6 ab ad ae;clear ap G y4 y6 ab ad ae aU aP O V aF aj au aT;have bJ:=hZ.size;have bu:b4<w5.heap.size/\b6<w5.heap.size:=⟨aX,aY⟩;(go_upto_region 10 with fail);(go_wp2_with fail);refine a4.mono ?_;rintro e w6 hst;clear a4 v0 v1 v2 n0 n1 e0 aV aW r0 r1 r2 f0 f1 f2;obtain⟨ap,G,y4,y6,ab,ad,ae⟩:=aQ.o;by_cases ak:CT (ss.map dK) (ns.map dL) t.cur.toNat (aa,Z)=0
    .unfold Fh at hst;rw[AJ ak]at hst;obtain⟨aH,aI,aJ,aK,aL,aM,rfl,hO,q1,q2,ag⟩:=hst;have af:=AM G G.size ag;have am:=y4.keep ag aX;have ah:=y6.keep ag aY;obtain⟨v0,v1,v2⟩:=ah.c3;obtain⟨e0,aV,aW⟩:=ah.f3;have bv:((0:Int) != 0)=false:=rfl;have bK:IntKind.i64.wrap ((i:Int)+1)=((i+1:Nat):Int):=by
      rw[IntWalk.i64_in _ ⟨gd,gd⟩];omega
     have HK:=gW hO q1 q2 af am ah ak;clear hO q1 q2 af am ah ak y4 y6 ap G ab ad ae ag T;(go_wp2_with fail);obtain⟨hO,q1,q2,af,am,ah,ak⟩:=HK.o;obtain⟨_,_,_,_,ab,ad,ae⟩:=aQ.o;refine⟨⟨i+1,⟨t.ss++[(aa,Z)],t.ns,t.cur⟩,aH,aI,aJ,aK,aL,aM,by rw[Int.natCast_add];rfl,a0,?_,?_,ah.set3b,.own (hO.set3b bu.2) (λk hk _=>⟨hP k (by have:=bq;omega),gd⟩),?_,?_,((am.else (p:=gX b6 0) av _).else (p:=gX b6 1) av _).else (p:=gX b6 2) av _,BV af H6.o⟩,?_⟩
     .refine AB ?_;rw[aR.o,QK aD.o (by rw[ab];exact aG) (by rw[ae,ad,<-e1.o,<-e2.o];exact ak),ae,ad]
     .refine AB (QL ?_);rw[<-e1.o,<-e2.o];exact ak
     .exact AB (by rw[q1,e1.o])
     .exact AB (by rw[q2,e2.o])
     show l.length-((i:Int)+1).toNat<l.length-(i:Int).toNat
     omega
    unfold Fh at hst;rw[AE ak]at hst;obtain⟨aH,aI,aJ,aK,aL,aM,rfl,hO,q1,q2,ag⟩:=hst;have af:=AM G G.size ag;have am:=y4.keep ag aX;have ah:=y6.keep ag aY;obtain⟨v0,v1,v2⟩:=ah.c3;obtain⟨e0,aV,aW⟩:=ah.f3;obtain⟨r0,r1,r2⟩:=am.c3;obtain⟨f0,f1,f2⟩:=am.f3;have a5:B1 c.t l=(default,CT (ss.map dK) (ns.map dL) t.cur.toNat (aa,Z)):=by
     rw[aR.o,QJ aD.o (by rw[ab];exact aG) (by rw[ae,ad,<-e1.o,<-e2.o];exact ak),ae,ad,<-e1.o,<-e2.o]
    generalize CT (ss.map dK) (ns.map dL) t.cur.toNat (aa,Z)=ge at *;have bv:=gM ge 0;have HG:=AB (T.o ge (set3b w6 b6 (.slice aH aJ.length aI) (.slice aK aM.length aL) (il 0)) (BV af H6.o) a5);have az:=AB ((((am.else (p:=gX b6 0) av (.slice aH aJ.length aI)).else (p:=gX b6 1) av (.slice aK aM.length aL)).else (p:=gX b6 2) av (il 0)).set3b (v0:=ir) (v1:=ir) (v2:=il 0));clear hO q1 q2 af am ah ak y4 y6 ap G ab ad ae ag T a5;(go_wp2_with fail);refine AW (BA (b:=b4) rfl _ _ rfl az.o) rfl ?_;exact HG.o
   have bp:=gM er 0;have HG:=AB (T.o er w5 G (by rw[aR.o,QI aD.o (by rw[ab];exact aG),ab]));have az:=AB (y4.set3b (v0:=ir) (v1:=ir) (v2:=il 0));clear y4 y6 aT hZ aU ap G ab ad ae O V T aF aj au;(go_wp2_with fail);refine AW (BA (b:=b4) rfl _ _ rfl az.o) rfl ?_;exact HG.o
  have bL:B1 c.t l=(t,0):=by
   rw[hw.o,List.drop_eq_nil_of_le gd];rfl
  obtain⟨u0,u1,u2⟩:=y6.c3;obtain⟨r0,r1,r2⟩:=y4.c3;obtain⟨f0,f1,f2⟩:=y4.f3;have az:=AB (y4.set3b (v0:=.slice sA ss.length sc) (v1:=.slice nA ns.length nc) (v2:=il t.cur.toNat));have HG:ga (If P w (B1 c.t l) (.returned (.tuple #[.agg (dP sA ss.length sc nA ns.length nc t.cur.toNat),io ((0:Nat):Int)])) (set3b wr b4 (.slice sA ss.length sc) (.slice nA ns.length nc) (il t.cur.toNat))):=AB (by
   rw[bL];exact⟨sA,sc,ss,nA,nc,ns,rfl,hT.set3q,e1.o,e2.o,BV aZ (by have:=a9.o;omega)⟩)
  clear y4 y6 hT aZ bL hw V;go_wp2_with fail
  refine AW (BA (b:=b4) rfl _ _ rfl az.o) rfl ?_;exact HG.o
