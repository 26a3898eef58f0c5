/- For CatalogEntries. -/
import Derived.StillTailTactics
import Derived.IntWalk
import Derived.Test.YtpfofefecamkfaaGreatDoorZ5
namespace Go.Proofs.YtpfofefecamkfaaGreatDoor
open Go.RowKit Proofs.Tryz
set_option maxRecDepth 100000
set_option maxHeartbeats 16000000
set_option linter.all false
theorem R0:∀(l:List ByteArray) (a:Nat),a<=l.foldl (λm s=>max m (Br s)) a/\∀x∈l,Br x<=l.foldl (λm s=>max m (Br s)) a
 | [],a=>⟨AD _,λ_ h=>(Bf h).elim⟩
 | y::l,a=>by
   have ih:=R0 l (max a (Br y));rw[List.foldl_cons];refine⟨by have:=ih.1;omega,λx hx=>?_⟩;rcases List.mem_cons.1 hx with rfl|hx
   .have:=ih.1;omega
   exact ih.2 x hx
theorem R4 {K}:∀(l:List ByteArray) (a:Nat),a<=K->(∀x∈l,Br x<=K)->l.foldl (λm s=>max m (Br s)) a<=K
 | [],a,h,_=>h
 | y::l,a,h,hl=>by
   rw[List.foldl_cons];exact R4 l _ (by have:=hl y (List.mem_cons_self ..);omega) λx hx=>hl x (List.mem_cons_of_mem _ hx)
theorem R6 {l x}(h:x∈l):Br x<=Cu l:=(R0 l 0).2 x h
theorem R7 {l K}(h:∀x∈l,Br x<=K):Cu l<=K:=R4 l 0 (AU _) h
theorem YK {s:So}{nm r bs}(h:r≠nm):Ar (s.sync1 nm bs).m r=Ar s.m r:=by
 show Ar (Be (Be s.m nm ⟨bs,true⟩) nm ⟨bs,false⟩) r=_;rw[Jh h,Jh h]
theorem YL {s:So}{nm bs}:Ar (s.sync1 nm bs).m nm=some ⟨bs,false⟩:=Qt _ _
theorem YM {s:So}{nm}(h:CR s.m nm=false){x t}(hx:Ar s.m x=some t):x≠nm:=λe=>by
 subst e;unfold CR at h;rw[hx]at h;cases h
theorem Lp {ss ns cur}(h:B7 ss ns cur=true):(∀j,j<ss.length->sOk ss j=true)/\(∀j,j<ns.length->nOk ss ns j=true)/\cur=(CK ns ns.length).id.toNat:=by
 unfold B7 at h;simp only[BX,BI,Da,List.mem_range]at h;exact⟨h.2.1,h.2.2.1,h.2.2.2⟩
theorem RA {ss ns i}(h:nOk ss ns i=true):(CK ns i).id.toNat<(ns.getD i default).id.toNat:=by
 unfold nOk at h;simp only[BX,BI]at h;exact h.1
theorem Lr {t:Tb}(h:t.ok):∀i j,i<j->j<t.ns.length->(t.ns.getD i default).id.toNat<(t.ns.getD j default).id.toNat:=by
 obtain⟨_,h2,_⟩:=Lp h;intro i j G hj;induction j with
 | zero=>omega
 | succ j ih=>
   have h3:=RA (h2 (j+1) hj);rw[JL]at h3;by_cases e:i=j
   .rw[e];exact h3
   have:=ih gd gd;omega
theorem RB {ns}(h:0<ns.length):CK ns ns.length=ns.getD (ns.length-1) default:=by unfold CK;rw[AE gd]
theorem Ls {t:Tb}(h:t.ok):t.cur.toNat=(CK t.ns t.ns.length).id.toNat:=(Lp h).2.2
theorem RC {t:Tb}(h:t.ok){i}(hi:i<t.ns.length):0<(t.ns.getD i default).id.toNat:=by
 have:=RA ((Lp h).2.1 i hi);omega
theorem YN {t:Tb}(h:t.ok):t.now=CK t.ns t.ns.length:=by
 have hc:=Ls h;rcases F5 t.ns.length with h0|h0
 .have hw:CK t.ns t.ns.length=default:=by unfold CK;rw[AJ h0]
  rw[hw]at hc ⊢;have hn:t.nowI = -1:=by
   unfold Tb.nowI;rw[AJ (show t.cur.toNat=0 from hc)]
  unfold Tb.now;rw[hn];rfl
 have hw:=RB h0;have:=RC h (show t.ns.length-1<t.ns.length by omega);rw[hw]at hc ⊢;have hi:DD t.ns t.cur=((t.ns.length-1:Nat):Int):=by
  unfold DD;refine FA (show t.ns.length-1<t.ns.length by omega) ?_ λj hj=>?_
  .rw[hc];simp
  have:=Lr h j (t.ns.length-1) hj gd;rw[hc,AQ];omega
 have hn:t.nowI=((t.ns.length-1:Nat):Int):=by
  unfold Tb.nowI;rw[AE gd,hi]
 unfold Tb.now;rw[hn,AJ (Int.natCast_nonneg _)];rfl
theorem YO (ss ns):¬((wrT ss ns).length<3\/(wrT ss ns).take 3≠tf1):=by
 simp[wrT,wr1,wr0,tf1]
theorem RD {t}(h:t.ok):CD (wrS t.ss t.ns)=(t,0):=by
 have h1:BT (wrS t.ss t.ns)=some (wrT t.ss t.ns):=QP _;have ho:opn ((wrT t.ss t.ns).drop 3)=(t.ss,t.ns,false):=XE h;have I:=YO t.ss t.ns;obtain⟨l,hl⟩:=ia (wrS t.ss t.ns);obtain⟨u,hu⟩:=ia (wrT t.ss t.ns);rw[hl,hu]at h1;rw[hu]at ho I;rw[hl];have hb:BO l=u:=by unfold BO;rw[h1];rfl
 have hc:=Ls h;have O:Ic t.ns=t.cur:=UInt64.toNat_inj.1 hc.symm;have G:(BT l).isSome=true:=by rw[h1];rfl
 have he:Cs l=0:=by
  refine Pk (ss:=t.ss) (ns:=t.ns) (bad:=false) G (by rw[hb];exact I) (by rw[hb];exact ho) ?_;rintro(q|q|q)
  .cases q
  .have h':B7 t.ss t.ns t.cur.toNat=true:=h;have e:ER t.ns=t.cur.toNat:=hc.symm;rw[e,h']at q;cases q
  exact q hl
 have e1:(opn ((BO l).drop 3)).1=t.ss:=by rw[hb,ho]
 have e2:(opn ((BO l).drop 3)).2.1=t.ns:=by rw[hb,ho]
 unfold CD;rw[AJ he,e1,e2,O]
theorem RE {l}(h:BR l=0):opE (Bq l)=(0,l):=by
 have h1:BT (Bq l)=some (wrE l):=QP _;have he:=XI h;rw[P7 h1 (by simp[wrE,mf1]) (by rw[he];simp) (by rw[he];exact⟨h,rfl⟩),he]
theorem RF {s:So}(hd:s.dead=false){nm bs lo}(h:Ar s.m nm=some ⟨bs,lo⟩):s.get nm=(bs,0):=by unfold So.get;rw[AE (by rw[hd];simp),h]
def Fi (M My:Nat->Prop) (J:Nat->Sn->World->Prop) (w:World) (sb mb K:Nat) (h:Ch) (e:Ending) (w':World):Prop:=
 ∃sA sc ss nA nc ns,e = .returned (.tuple #[.agg #[.slice sA (List.length ss) sc,.slice nA (List.length ns) nc,il h.t.cur.toNat],io h.e])/\dJ w' (λk=>¬M k) sA sc ss nA nc ns/\ss.map dK=h.t.ss/\ns.map dL=h.t.ns/\Env M w' sb mb K h.s/\dI My w w'/\J h.e h.n w'
def RG (M My:Nat->Prop) (J:Nat->Sn->World->Prop) (w:World) (sb mb cb K:Nat) (r:Tr) (e:Ending) (w':World):Prop:=
 e = .returned (io r.e)/\Env M w' sb mb K r.s/\An w' (λk=>¬M k) cb sb r.c/\r.c.t.ok/\dI (λk=>My k\/k=cb) w w'/\∃e0 n0,J e0 n0 w'/\(r.e=0->e0=0/\n0=r.n)
theorem An.cells {w P cb sb c}(h:An w P cb sb c):∃v1 v2 v3,dH w cb [iq sb 0,v1,v2,v3,.string c.nm]:=by
 obtain⟨sA,sc,ss,nA,nc,ns,hx,_⟩:=h;exact⟨_,_,_,hx⟩
theorem dI.toY {My:Nat->Prop}{sb mb cb w w'}(h:dI (Ms sb mb) w w')(h1:My sb)(h2:My mb):dI (λk=>My k\/k=cb) w w':=h.imp λk _ q=>.inl (q.elim (λe=>e▸h1) (λe=>e▸h2))
def Ma (M:Nat->Prop) (b:Nat) (k:Nat):Prop:=M k\/k=b
theorem Env.add {M w w' sb mb K s}(h:Env M w sb mb K s)(hb:Below w.heap.size w w'){b}(h1:w.heap.size<=b)(h2:b<w'.heap.size):Env (Ma M b) w' sb mb K s:=by
 obtain⟨N,hN,hS⟩:=h.st;have:=h.tb.z;have:=h.lt sb h.m1;have:=h.lt mb h.m2;exact⟨⟨N,hN,(hS.imp (Q:=λk=>¬Ma M b k) (λk hk hl q=>q.elim hk λe=>gd) (λq=>q (.inl h.m1)) (λq=>q (.inl h.m2))).keep hb⟩,.inl h.m1,.inl h.m2,λk hk=>hk.elim (λq=>AV (h.lt k q) hb.size) λe=>gd,λk hk=>hk.elim (h.g9 k) λe=>gd,h.tb.low hb,h.fit⟩
theorem Env.less {M w sb mb K b s}(h:Env (Ma M b) w sb mb K s)(h1:M sb)(h2:M mb):Env M w sb mb K s:=by
 obtain⟨N,hN,hS⟩:=h.st;exact⟨⟨N,hN,hS.imp (Q:=λk=>¬M k) (λk hk _ q=>hk (.inl q)) (λq=>q h1) (λq=>q h2)⟩,h1,h2,λk hk=>h.lt k (.inl hk),λk hk=>h.g9 k (.inl hk),h.tb,h.fit⟩
theorem An.add {M w w' sb cb c}(h:An w (λk=>¬M k) cb sb c)(hb:Below w.heap.size w w'){b}(h1:w.heap.size<=b):An w' (λk=>¬Ma M b k) cb sb c:=
 (h.imp λk hk hl q=>q.elim hk λe=>gd).low hb
theorem dM.add {M w w' sz n c A xs}(h:dM w (λk=>¬M k) sz A n c xs)(hb:Below w.heap.size w w'){b}(h1:w.heap.size<=b):dM w' (λk=>¬Ma M b k) sz A n c xs:=
 (h.imp λk hk hl q=>q.elim hk λe=>gd).low hb
def YP (M:Nat->Prop) (w:World) (sb mb cb K:Nat) (r:So×Ct×Nat) (e:Ending) (w':World):Prop:=
 e = .returned (io (r.2.2:Int))/\Env M w' sb mb K r.1/\An w' (λk=>¬M k) cb sb r.2.1/\dI (Mc sb mb cb) w w'
def Jy (M:Nat->Prop) (w:World) (sb mb K:Nat) (r:So×Option Ct×Nat) (e:Ending) (w':World):Prop:=
 match r.2.1 with
 | none=>e = .returned (.tuple #[.pointer none,io (r.2.2:Int)])/\Env M w' sb mb K r.1/\dI (Ms sb mb) w w'
 | some c=>∃cb,e = .returned (.tuple #[.pointer (some ⟨cb,0,none⟩),io (r.2.2:Int)])/\w.heap.size<=cb/\cb<w'.heap.size/\Env (Ma M cb) w' sb mb K r.1/\An w' (λk=>¬Ma M cb k) cb sb c/\dI (Ms sb mb) w w'
theorem CM (w b v0 v1 v2):Oth b w (set3b w b v0 v1 v2):=(((Oth.refl b w).set 0 v0).set 1 v1).set 2 v2
theorem RH {w6:World}{b3 b5 j v a b c o}(h:w6.cell? (gX b3 j)=some v)(hne:b3≠b5)(hlt:b3<w6.heap.size):((((w6.setCell (gX b5 0) a).setCell (gX b5 1) b).setCell (gX b5 2) c).alloc o).cell? (gX b3 j)=some v:=by
 have ho:=CM w6 b5 a b c;have h1:=(ho.cell (p:=gX b3 j) hlt hne).trans h;have hb:=(AC (set3b w6 b5 a b c).heap.size (set3b w6 b5 a b c)).alloc (AD _) o;exact(hb.cell (p:=gX b3 j) (AV hlt ho.size)).trans h1
def Jz (M:Nat->Prop) (w1 wx:World) (b5 bS:Nat) (id:UInt32) (fs:List Fd) (vA:Option Addr) (vc:Nat):Prop:=
 w1.heap.size<=b5/\dH wx b5 [.slice (some ⟨bS,0,none⟩) 1 1,ir,il 0]/\dJ wx (λk=>¬M k) (some ⟨bS,0,none⟩) 1 [⟨id,fs,vA,vc⟩] none 0 []/\Below w1.heap.size w1 wx
theorem YQ {W P bS id fs vA vc}(h:dH W bS [im id.toNat,.slice vA fs.length vc])(hP:P bS):dM W P 2 (gY bS 0) 1 1 (CX [⟨id,fs,vA,vc⟩]):=
 ⟨⟨rfl,AD _,gm,λ_=>⟨bS,0,rfl,h.z,λj u hj=>by rw[BL];exact h.cell j u hj⟩⟩,λ_=>⟨bS,0,rfl,hP⟩⟩
theorem Lu {M}{w1 w6 wx:World}{b5 bS id fs vA vc}(hM:∀k,M k->k<w1.heap.size)(h5:w1.heap.size<=b5)(hS:w1.heap.size<=bS)(y5:dH wx b5 [.slice (gY bS 0) 1 1,ir,il 0])(yS:dH wx bS [im id.toNat,.slice vA fs.length vc])(ho:wx.ownsRow w1.heap.size 89 4 (.slice vA fs.length vc) fs.length (AZ fs))(hb:Below w1.heap.size w1 wx):Jz M w1 wx b5 bS id fs vA vc:=
 ⟨h5,y5,⟨YQ yS (λq=>by have:=hM _ q;omega),λs hs=>by rw[BS.1 hs];exact .own ho λk hk _ q=>by have:=hM _ q;omega,.nil _ _ _,λ_ h=>(Bf h).elim⟩,hb⟩
theorem K3 {M w1 w6 id fs vA vc}(hM:∀k,M k->k<w1.heap.size)(ho:w6.ownsRow w1.heap.size 89 4 (.slice vA fs.length vc) fs.length (AZ fs))(hb:Below w1.heap.size w1 w6):
 Jz M w1 ((w6.alloc (.cells (dR id vA fs.length vc) 33)).alloc (.cells #[.slice (gY w6.heap.size 0) 1 1,ir,il 0] 39)) (w6.heap.size+1) w6.heap.size id fs vA vc:=by
 obtain⟨yS,hA⟩:=gZ w6 (dR id vA fs.length vc) 33;have yT:=AP (w6.alloc (.cells (dR id vA fs.length vc) 33)) #[.slice (gY w6.heap.size 0) 1 1,ir,il 0] 39;have hz:(w6.alloc (.cells (dR id vA fs.length vc) 33)).heap.size=w6.heap.size+1:=gj;have hB:=(AC _ (w6.alloc (.cells (dR id vA fs.length vc) 33))).alloc (AD _) (.cells #[.slice (gY w6.heap.size 0) 1 1,ir,il 0] 39);rw[hz]at yT;have hs:=hb.size;exact Lu (w6:=w6) hM gd hs yT (yS.keep hB yS.z) (Ag (Ag ho hA) hB) (AM (AM hb hs hA) gd hB)
theorem K4 {M w1 w6 id fs vA vc}(hM:∀k,M k->k<w1.heap.size)(ho:w6.ownsRow w1.heap.size 89 4 (.slice vA fs.length vc) fs.length (AZ fs))(hb:Below w1.heap.size w1 w6):
 Jz M w1 ((w6.alloc (.cells #[.slice (gY (w6.heap.size+1) 0) 1 1,ir,il 0] 39)).alloc (.cells (dR id vA fs.length vc) 33)) w6.heap.size (w6.heap.size+1) id fs vA vc:=by
 obtain⟨yT,hA⟩:=gZ w6 #[.slice (gY (w6.heap.size+1) 0) 1 1,ir,il 0] 39;have yS:=AP (w6.alloc (.cells #[.slice (gY (w6.heap.size+1) 0) 1 1,ir,il 0] 39)) (dR id vA fs.length vc) 33;have hz:(w6.alloc (.cells #[.slice (gY (w6.heap.size+1) 0) 1 1,ir,il 0] 39)).heap.size=w6.heap.size+1:=gj;have hB:=(AC _ (w6.alloc (.cells #[.slice (gY (w6.heap.size+1) 0) 1 1,ir,il 0] 39))).alloc (AD _) (.cells (dR id vA fs.length vc) 33);rw[hz]at yS;have hs:=hb.size;exact Lu (w6:=w6) hM hs gd (yT.keep hB yT.z) yS (Ag (Ag ho hA) hB) (AM (AM hb hs hA) gd hB)
theorem YU {M w1 w6 id fs vA vc}(hM:∀k,M k->k<w1.heap.size)(ho:w6.ownsRow w1.heap.size 89 4 (.slice vA fs.length vc) fs.length (AZ fs))(hne:(Value.slice vA fs.length vc).ownBlock≠some w1.heap.size)(hb:Below w1.heap.size w1 w6)(y:dH w6 w1.heap.size [ir,ir,il 0]):
 Jz M w1 ((((w6.setCell (gX w1.heap.size 0) (.slice (gY w6.heap.size 0) 1 1)).setCell (gX w1.heap.size 1) ir).setCell (gX w1.heap.size 2) (il 0)).alloc (.cells (dR id vA fs.length vc) 33)) w1.heap.size w6.heap.size id fs vA vc:=by
 have o:=CM w6 w1.heap.size (.slice (gY w6.heap.size 0) 1 1) ir (il 0);have y2:=y.set3b (v0:=.slice (gY w6.heap.size 0) 1 1) (v1:=ir) (v2:=il 0);have hz:(set3b w6 w1.heap.size (.slice (gY w6.heap.size 0) 1 1) ir (il 0)).heap.size=w6.heap.size:=by simp[set3b,World.setCell]
 have hB:=(AC _ (set3b w6 w1.heap.size (.slice (gY w6.heap.size 0) 1 1) ir (il 0))).alloc (AD _) (.cells (dR id vA fs.length vc) 33);have yS:=AP (set3b w6 w1.heap.size (.slice (gY w6.heap.size 0) 1 1) ir (il 0)) (dR id vA fs.length vc) 33;rw[hz]at yS;have hs:=hb.size;exact Lu (w6:=w6) hM (AD _) hs (y2.keep hB y2.z) yS (Ag (Bn ho λg hg hl=>o.block g hl λq=>hne (by rw[hg,q])) hB) (AM (hb.trans (o.belowB (AD _) hs)) gd hB)
theorem Fj (w:World)(o):w.heap.size<(w.alloc o).drew.heap.size:=by
 show _<(w.heap.push o).size;simp
theorem YW {s:ByteArray}:(s.toList==[])=decide (s.size=0):=by
 rw[EM,Cx,Ap,decide_eq_true_iff];show s.data.toList=[]↔s.data.size=0;rw[<-Array.length_toList,List.length_eq_zero_iff]
theorem YX (M)(w:World)(sb):An (w.alloc (.cells #[iq sb 0,ir,ir,il 0,.string ⟨#[]⟩] 109)) (λk=>¬Ma M w.heap.size k) w.heap.size sb noC:=
 ⟨none,0,[],none,0,[],AP w #[iq sb 0,ir,ir,il 0,.string ⟨#[]⟩] 109,dJ.nil _ _,rfl,rfl⟩
theorem YY {s:So}{p}(h:check p.1 p.2≠0):s.openC p=(s,none,check p.1 p.2):=by unfold So.openC;rw[AJ h]
theorem YZ {s:So}{p}(h:check p.1 p.2=0)(hd:s.dead=true):s.openC p=(s,none,120):=by unfold So.openC;rw[AE gz];unfold So.open2;rw[AJ hd];rfl
theorem Ya {s:So}{p}(h:check p.1 p.2=0)(hd:s.dead=false)(hc:s.cell.size=0){r}(hr:s.begin p=r):s.openC p=So.open3 r:=by unfold So.openC;rw[AE gz];unfold So.open2;rw[AE (by rw[hd];simp),AJ hc,hr]
theorem RI {s p}(h:check p.1 p.2=0)(hd:s.dead=false)(hc:s.cell.size≠0){r}(hr:s.refresh noC=r):s.openC p=So.open3 (s,r):=by unfold So.openC;rw[AE gz];unfold So.open2;rw[AE (by rw[hd];simp),AE hc,hr]
theorem Lv {r}(h:r.2.2=0):So.open3 r=(r.1,some r.2.1,0):=by unfold So.open3;rw[AJ h]
theorem RJ {r}(h:r.2.2≠0):So.open3 r=(r.1,none,r.2.2):=by unfold So.open3;rw[AE h]
theorem K5 {M w w' sb mb K er}{s s2:So}{p}(h:s.openC p=(s2,none,er))(hE:Env M w' sb mb K s2)(hm:dI (Ms sb mb) w w'):Jy M w sb mb K (s.openC p) (.returned (.tuple #[.pointer none,io er])) w':=by rw[h];exact⟨rfl,hE,hm⟩
theorem RK {M w w' sb mb K cb}{s s2:So}{c p}(h:s.openC p=(s2,some c,0))(h1:w.heap.size<=cb)(h2:cb<w'.heap.size)(hE:Env (Ma M cb) w' sb mb K s2)(hC:An w' (λk=>¬Ma M cb k) cb sb c)(hm:dI (Ms sb mb) w w'):Jy M w sb mb K (s.openC p) (.returned (.tuple #[iq cb 0,io 0])) w':=by rw[h];exact⟨cb,rfl,h1,h2,hE,hC,hm⟩
theorem DrQ.low {w w' P d fA aA dA fc ac dc al}(h:DrQ w P d fA fc aA ac al dA dc)(hb:Below w.heap.size w w'):DrQ w' P d fA fc aA ac al dA dc:=⟨h.f.low hb,h.a.low hb,h.e,h.dr.low hb,h.an,h.dn⟩
theorem DrQ.mst {w w' M P d fA aA dA fc ac dc al}(h:DrQ w P d fA fc aA ac al dA dc)(m:dI M w w')(hP:∀k,P k->¬M k):DrQ w' P d fA fc aA ac al dA dc:=⟨m.rdq h.f hP,h.a.mst m hP,h.e,m.rdq h.dr hP,h.an,h.dn⟩
theorem DrQ.imp {w P Q d fA aA dA fc ac dc al}(h:DrQ w P d fA fc aA ac al dA dc)(hi:∀k,P k->k<w.heap.size->Q k):DrQ w Q d fA fc aA ac al dA dc:=⟨h.f.imp hi,h.a.imp hi,h.e,h.dr.imp hi,h.an,h.dn⟩
theorem DrQ.add {M w w' d fA aA dA fc ac dc al}(h:DrQ w (λk=>¬M k) d fA fc aA ac al dA dc)(hb:Below w.heap.size w w'){b}(h1:w.heap.size<=b):DrQ w' (λk=>¬Ma M b k) d fA fc aA ac al dA dc:=
 (h.imp λk hk hl q=>q.elim hk λe=>gd).low hb
theorem dI.drop {My w w' b}(h:dI (Ma My b) w w')(hb:w.heap.size<=b):dI My w w':=h.imp λk hk q=>q.elim id λe=>gd
def SnJ (M:Nat->Prop) (bs:Nat) (e:Nat) (n:Sn) (W:World):Prop:=
 ∃v0 v1 v2 v3 v4 v5 v6,dH W bs [v0,v1,v2,v3,v4,v5,v6]/\(e=0->∃mA mc,(#[v0,v1,v2,v3,v4,v5,v6]:Array Value)=(dO n mA mc)/\dM W (λk=>¬M k) 1 mA n.ms.length mc (AY n.ms))
theorem SnJ.keep {M N bs e n W W'}(h:SnJ M bs e n W)(m:dI N W W')(hN:¬N bs)(hP:∀k,¬M k->¬N k):SnJ M bs e n W':=by
 obtain⟨v0,v1,v2,v3,v4,v5,v6,hb,h0⟩:=h;refine⟨v0,v1,v2,v3,v4,v5,v6,m.box hb hN,λhe=>?_⟩;obtain⟨mA,mc,e1,e2⟩:=h0 he;exact⟨mA,mc,e1,m.rdq e2 hP⟩
theorem SnJ.bad {M bs e n W v0 v1 v2 v3 v4 v5 v6}(h:dH W bs [v0,v1,v2,v3,v4,v5,v6])(h0:e≠0):SnJ M bs e n W:=⟨_,_,_,_,_,_,_,h,λq=>absurd q h0⟩
theorem k7 {W:World}{b bs j v v0 v1 v2 v3 v4 v5 v6}(h:W.cell? (gX b j)=some v)(hne:b≠bs)(hlt:b<W.heap.size):(((((((W.setCell (gX bs 0) v0).setCell (gX bs 1) v1).setCell (gX bs 2) v2).setCell (gX bs 3) v3).setCell (gX bs 4) v4).setCell (gX bs 5) v5).setCell (gX bs 6) v6).cell? (gX b j)=some v:=
 ((EU W bs v0 v1 v2 v3 v4 v5 v6).cell (p:=gX b j) hlt hne).trans h
theorem SnJ.err {M bs e b er n n2 W W'}(h:SnJ M bs e n W)(o:Oth b W W')(hne:bs≠b)(h0:er≠0):SnJ M bs er n2 W':=by
 obtain⟨v0,v1,v2,v3,v4,v5,v6,hb,_⟩:=h;exact SnJ.bad (hb.oth o hne) h0
theorem K6 {M My J w w' sb mb K b h sA nA sc nc ss ns}(hT:dJ w' (λk=>¬Ma M b k) sA sc ss nA nc ns)(e1:ss.map dK=h.t.ss)(e2:ns.map dL=h.t.ns)(hE:Env (Ma M b) w' sb mb K h.s)(m1:M sb)(m2:M mb)(hm:dI (Ma My b) w w')(hb:w.heap.size<=b)(hJ:J h.e h.n w'):
 Fi M My J w sb mb K h (.returned (.tuple #[.agg #[.slice sA (List.length ss) sc,.slice nA (List.length ns) nc,il h.t.cur.toNat],io h.e])) w':=
 ⟨sA,sc,ss,nA,nc,ns,rfl,hT.imp λk hk _ q=>hk (.inl q),e1,e2,hE.less m1 m2,hm.drop hb,hJ⟩
theorem K7 {M My}{J:Nat->Sn->World->Prop}{w w' sb mb K b er s h}(hh:h=⟨s,er,default,default⟩)(hE:Env (Ma M b) w' sb mb K s)(m1:M sb)(m2:M mb)(hm:dI (Ma My b) w w')(hb:w.heap.size<=b)(hJ:J er default w'):
 Fi M My J w sb mb K h (.returned (.tuple #[.agg Aa,io er])) w':=by
 subst hh;exact K6 (ss:=[]) (ns:=[]) (dJ.nil _ _) rfl rfl hE m1 m2 hm hb hJ
theorem Af (w o):Below w.heap.size w (w.alloc o):=hI w o
def Mn (M:Nat->Prop) (v:Value) (k:Nat):Prop:=M k\/v.ownBlock=some k
theorem dI.grown {w w' o}(h:w.grownBy w' o):dI (λk=>o=some k) w w':=⟨h.os,h.tape,h.output,h.size,λk hk hn=>h.block k hk λq=>hn q.symm⟩
theorem Env.mst {M N w w' sb mb K s}(h:Env M w sb mb K s)(m:dI N w w')(hN:∀k,N k->M k/\k≠sb/\k≠mb):Env M w' sb mb K s:=by
 obtain⟨N',G,hS⟩:=h.st;obtain⟨D,hD⟩:=hS.mp;exact⟨⟨N',G,⟨m.box hS.bx (λq=>(hN sb q).2.1 rfl),⟨D,hD.move m.size (m.block mb hD.lt (λq=>(hN mb q).2.2 rfl)) (λp hp hl=>m.cell hl λq=>hp (hN _ q).1)⟩,hS.nP,hS.ne,hS.ok⟩⟩,h.m1,h.m2,λk hk=>AV (h.lt k hk) m.size,h.g9,h.tb.mst (m.imp (N:=M) λk _ q=>(hN k q).1) h.g9,h.fit⟩
theorem Env.addN {M w w' sb mb K s}(h:Env M w sb mb K s)(hb:Below w.heap.size w w'){v}(hN:∀k,v.ownBlock=some k->w.heap.size<=k/\k<w'.heap.size):Env (Mn M v) w' sb mb K s:=by
 obtain⟨N,G,hS⟩:=h.st;have:=h.tb.z;have:=h.lt sb h.m1;have:=h.lt mb h.m2;exact⟨⟨N,G,(hS.imp (Q:=λk=>¬Mn M v k) (λk hk hl q=>q.elim hk λe=>by have:=(hN k e).1;omega) (λq=>q (.inl h.m1)) (λq=>q (.inl h.m2))).keep hb⟩,.inl h.m1,.inl h.m2,λk hk=>hk.elim (λq=>AV (h.lt k q) hb.size) λe=>(hN k e).2,λk hk=>hk.elim (h.g9 k) λe=>by have:=(hN k e).1;omega,h.tb.low hb,h.fit⟩
theorem Env.lessN {M w sb mb K s v}(h:Env (Mn M v) w sb mb K s)(h1:M sb)(h2:M mb):Env M w sb mb K s:=by
 obtain⟨N,hN,hS⟩:=h.st;exact⟨⟨N,hN,hS.imp (Q:=λk=>¬M k) (λk hk _ q=>hk (.inl q)) (λq=>q h1) (λq=>q h2)⟩,h1,h2,λk hk=>h.lt k (.inl hk),λk hk=>h.g9 k (.inl hk),h.tb,h.fit⟩
theorem dI.tail {M w w1 w2 B}(h:dI M w w1)(hb:Below B w1 w2)(hB:w.heap.size<=B):dI M w w2:=
 ⟨hb.os.trans h.os,hb.tape.trans h.tape,hb.output.trans h.output,AS h.size hb.size,λk hk hn=>(hb.block k (AV hk hB)).trans (h.block k hk hn)⟩
theorem RL {s:So}{t d sh}(h:t.ok):(s.draft t d sh).2.1.ms.length<=8:=by
 have h1:=h.now_ms.1;have h2:=(Jw t.now d sh).2.2.2.2;unfold So.draft;split
 .exact AU _
 split
 .exact AU _
 unfold Di;split
 .exact AU _
 split
 .exact AU _
 split
 .exact AU _
 split
 .exact AU _
 split
 .exact h1
 show(sn1 t.now d sh).ms.length<=8;rw[h2];exact AU _
theorem Yc {w w' e s u sn sn2 st}(h:st.2.2=0)(h2 : { sn with ms:=sn.ms++[st.2.1] } = sn2)(hp:Gf w u.ss u.ns sn2 e w'):
 ∃er T n,Ep s u sn st=⟨st.1,er,T,n⟩/\DT w er T.ss T.ns T.cur.toNat e w'/\(er=0->n=sn2):=by
 unfold Gf at hp;by_cases h3:Dw u.ss u.ns sn2=0
 .rw[AJ h3]at hp;exact⟨0,_,_,Qr h h2 h3,hp,λ_=>rfl⟩
 rw[AE h3]at hp;exact⟨_,default,default,Qq h h2 h3,hp,λq=>absurd q h3⟩
def DrX (w w4:World) (Q:Nat->Prop) (g:Nat×Sn×List En) (i0 i1 i2 i3 i4:UInt64) (i5:UInt32) (A6:Option Addr) (n6 c6:Nat) (A4:Option Addr) (n4 k4:Nat):Prop:=
 Below w.heap.size w w4/\(g.1=0->(g.2.1.id=i0/\g.2.1.par=i1/\g.2.1.seq=i2/\g.2.1.off=i3/\g.2.1.tim=i4/\g.2.1.sch=i5/\g.2.1.ms.length=n6)/\w4.ownsRow w.heap.size 9 1 (.slice A6 n6 c6) n6 (AY g.2.1.ms)/\∃out:List El,out.length=n4/\EnQ w4 Q A4 k4 out/\out.map El.p=g.2.2)
theorem Ih {a b:UInt64}(h:(Value.int .u64 a.toNat) = il b.toNat):b=a:=by
 injection h with _ h;exact UInt64.toNat_inj.1 gd
theorem Yd {w w4 Q g i0 i1 i2 i3 i4 i5 A6 n6 c6 A4 k4 out}(hb:Below w.heap.size w.drew w4)(h:g.1=0->∃mA mc,(#[il i0.toNat,il i1.toNat,il i2.toNat,il i3.toNat,il i4.toNat,im i5.toNat,.slice A6 n6 c6]:Array Value)=#[il (g.2.1.id.toNat:Int),il (g.2.1.par.toNat:Int),il (g.2.1.seq.toNat:Int),il (g.2.1.off.toNat:Int),il (g.2.1.tim.toNat:Int),im (g.2.1.sch.toNat:Int),.slice mA g.2.1.ms.length mc]/\w4.ownsRow w.heap.size 9 1 (.slice mA g.2.1.ms.length mc) g.2.1.ms.length (AY g.2.1.ms)/\EnQ w4 Q A4 k4 out/\out.map El.p=g.2.2):DrX w w4 Q g i0 i1 i2 i3 i4 i5 A6 n6 c6 A4 out.length k4:=by
 refine⟨BY hb,λh0=>?_⟩;obtain⟨mA,mc,e,ho,hq,hp⟩:=h h0;simp only[Array.mk.injEq,List.cons.injEq,and_true]at e;obtain⟨e0,e1,e2,e3,e4,e5,e6⟩:=e;injection e6 with e6 e7 e8;subst e6 e8;injection e5 with _ e5;refine⟨⟨Ih e0,Ih e1,Ih e2,Ih e3,Ih e4,UInt32.toNat_inj.1 gd,e7.symm⟩,by rw[e7];exact ho,out,rfl,hq,hp⟩
def GN (M:Nat->Prop) (w:World) (sb mb cb K:Nat) (r:Tr) (e:Ending) (w':World):Prop:=
 ∃v0 v1 v2 v3 v4 v5 v6,e = .returned (.tuple #[.agg #[v0,v1,v2,v3,v4,v5,v6],io r.e])/\Env M w' sb mb K r.s/\An w' (λk=>¬M k) cb sb r.c/\r.c.t.ok/\dI (Mc sb mb cb) w w' /\
  (r.e≠0->(#[v0,v1,v2,v3,v4,v5,v6]:Array Value)=Aj)/\(r.e=0->∃mA mc,(#[v0,v1,v2,v3,v4,v5,v6]:Array Value)=(dO r.n mA mc)/\w'.ownsRow w.heap.size 9 1 (.slice mA r.n.ms.length mc) r.n.ms.length (AY r.n.ms))
theorem Yf:∀args w,(callFunc 41 args).run prog w = .ok (.enter 41 args) w:=enters_of func41 gh rfl
def Mo (M N:Nat->Prop) (k:Nat):Prop:=M k\/N k
theorem Env.addS {M N w w' sb mb K s}(h:Env M w sb mb K s)(hb:Below w.heap.size w w')(hN:∀k,N k->w.heap.size<=k/\k<w'.heap.size):Env (Mo M N) w' sb mb K s:=by
 obtain⟨K',G,hS⟩:=h.st;have:=h.tb.z;have:=h.lt sb h.m1;have:=h.lt mb h.m2;exact⟨⟨K',G,(hS.imp (Q:=λk=>¬Mo M N k) (λk hk hl q=>q.elim hk λe=>by have:=(hN k e).1;omega) (λq=>q (.inl h.m1)) (λq=>q (.inl h.m2))).keep hb⟩,.inl h.m1,.inl h.m2,λk hk=>hk.elim (λq=>AV (h.lt k q) hb.size) λe=>(hN k e).2,λk hk=>hk.elim (h.g9 k) λe=>by have:=(hN k e).1;omega,h.tb.low hb,h.fit⟩
theorem Env.lessS {M N w sb mb K s}(h:Env (Mo M N) w sb mb K s)(h1:M sb)(h2:M mb):Env M w sb mb K s:=by
 obtain⟨K',hN,hS⟩:=h.st;exact⟨⟨K',hN,hS.imp (Q:=λk=>¬M k) (λk hk _ q=>hk (.inl q)) (λq=>q h1) (λq=>q h2)⟩,h1,h2,λk hk=>h.lt k (.inl hk),λk hk=>h.g9 k (.inl hk),h.tb,h.fit⟩
theorem An.addS {M N w w' sb cb c}(h:An w (λk=>¬M k) cb sb c)(hb:Below w.heap.size w w')(hN:∀k,N k->w.heap.size<=k):An w' (λk=>¬Mo M N k) cb sb c:=
 (h.imp λk hk hl q=>q.elim hk λe=>by have:=hN k e;omega).low hb
theorem DrQ.addS {M N w w' d fA aA dA fc ac dc al}(h:DrQ w (λk=>¬M k) d fA fc aA ac al dA dc)(hb:Below w.heap.size w w')(hN:∀k,N k->w.heap.size<=k):DrQ w' (λk=>¬Mo M N k) d fA fc aA ac al dA dc:=
 (h.imp λk hk hl q=>q.elim hk λe=>by have:=hN k e;omega).low hb
theorem dH.al {w b cs}(h:dH w b cs)(o):dH (w.alloc o) b cs:=h.keep (hI w o) h.z
theorem dH.at_ {w b b2 cs}(h:dH w b cs)(e:b=b2):dH w b2 cs:=e▸h
theorem Ah {w w1 w2}(h:Below w.heap.size w w1)(k:Below w1.heap.size w1 w2):Below w.heap.size w w2:=AM h h.size k
theorem Yg {d s t}(h:t.ok):(BB d s t).n.ms.length<=9:=by
 unfold BB;split
 .exact AU _
 have:=RL (s:=s) (d:=d) (sh:=(B1 t d.fs).1.lastS.1) h;generalize s.draft t d (B1 t d.fs).1.lastS.1=g at *;unfold Er;split
 .exact AU _
 split
 .exact AU _
 unfold Ep;split
 .exact AU _
 split
 .exact AU _
 show(g.2.1.ms++_).length<=9;rw[AR,Ea];omega
theorem Yh {c h q nm}(hn:h.n.ms.length<=9):(DX c h q nm).n.ms.length<=9:=by
 unfold DX;split
 .exact hn
 split
 .exact hn
 split
 .exact hn
 exact hn
theorem Yi {c h}(hn:h.n.ms.length<=9):(CE c h).n.ms.length<=9:=by
 unfold CE;split
 .exact AU _
 split
 .exact AU _
 exact Yh hn
theorem Yj {c h q nm}(hc:c.t.ok)(hon:(DX c h q nm).on=true):(DX c h q nm).c.t.ok:=by
 unfold DX at hon ⊢;split
 .rename_i h3;rw[AJ h3]at hon;cases hon
 split
 .exact hc
 split
 .exact hc
 exact Qd hc
theorem Yk {c h}(hc:c.t.ok)(hon:(CE c h).on=true):(CE c h).c.t.ok:=by
 unfold CE at hon ⊢;split
 .exact hc
 rename_i h1;rw[AE h1]at hon;split
 .exact hc
 rename_i h2;rw[AE h2]at hon;exact Yj hc hon
theorem RM {d}:∀(k:Nat) (s:So) (c:Ct),c.t.ok->(BP (BB d) k s c).n.ms.length<=9
 | 0,_,_,_=>AU _
 | k+1,s,c,h=>by
   cases ho:(CE c (BB d s c.t)).on with
   | true=>rw[Qe ho];exact RM k _ _ (Yk h ho)
   | false=>rw[GJ ho];exact Yi (Yg h)
theorem RN {w w' sb mb cb bs b4}(h:dI (λk=>((Ms sb mb k\/k=bs)\/k=cb)\/k=b4) w w')(h4:w.heap.size<=b4)(hs:w.heap.size<=bs):dI (Mc sb mb cb) w w':=
 h.imp λk hk q=>by
  rcases q with ((q|q)|q)|q
  .exact q.elim .inl λq=>.inr (.inl q)
  .omega
  .exact .inr (.inr q)
  omega
theorem Yl {M M' w w' sb mb cb K b2 b3 bs b4 rp r}(hr:rp=r)(hE:Env M' w' sb mb K r.s)(hC:An w' (λk=>¬M' k) cb sb r.c)(hok:r.c.t.ok)(hm:dI (λk=>((Ms sb mb k\/k=bs)\/k=cb)\/k=b4) w w')(hM:Mo M (λk=>k=b4\/k=bs)=M')(m1:M sb)(m2:M mb)(hB:b2=w.heap.size/\b3=w.heap.size+1/\b4=w.heap.size+2/\bs=w.heap.size+3)(h0:r.e≠0):
 GN M w sb mb cb K rp (.returned (.tuple #[.agg Aj,io r.e])) w':=by
 subst hM hr;exact⟨_,_,_,_,_,_,_,rfl,hE.lessS m1 m2,hC.imp λk hk _ q=>hk (.inl q),hok,RN hm gd gd,λ_=>rfl,λq=>absurd q h0⟩
theorem Ym {M M' w w' sb mb cb K b2 b3 bs b4 B rp r}(hr:rp=r)(hE:Env M' w' sb mb K r.s)(hC:An w' (λk=>¬M' k) cb sb r.c)(hok:r.c.t.ok)(hm:dI (λk=>((Ms sb mb k\/k=bs)\/k=cb)\/k=b4) w w')(hM:Mo M (λk=>k=b4\/k=bs)=M')(m1:M sb)(m2:M mb)(hB:b2=w.heap.size/\b3=w.heap.size+1/\b4=w.heap.size+2/\bs=w.heap.size+3)(h0:r.e=0){A c}(ho:w'.ownsRow B 9 1 (.slice A r.n.ms.length c) r.n.ms.length (AY r.n.ms))(hBl:w.heap.size<=B):
 GN M w sb mb cb K rp (.returned (.tuple #[.agg (dO r.n A c),io 0])) w':=by
 subst hM hr;refine⟨_,_,_,_,_,_,_,by rw[h0];rfl,hE.lessS m1 m2,hC.imp λk hk _ q=>hk (.inl q),hok,RN hm gd gd,λq=>absurd h0 q,λ_=>⟨A,c,rfl,B4 ho hBl⟩⟩
theorem Yn (l):∀u∈AY l,u.oneCell'=true:=by
 intro u hu;unfold AY at hu;obtain⟨x,_,rfl⟩:=CG.1 hu;rfl
def noJ:Nat->Sn->World->Prop:=λ_ _ _=>True
theorem RO {w M b v0 v1 v2 sA nA sc nc ss ns}(h:dJ w (λk=>¬Ma M b k) sA sc ss nA nc ns):dJ (set3b w b v0 v1 v2) (λk=>¬Ma M b k) sA sc ss nA nc ns:=
 h.mst (dI.ofOth (M:=λk=>k=b) (CM w b v0 v1 v2) rfl) λk hk e=>hk (.inr e)
theorem k3 {W:World}{b bs j v v0 v1 v2}(h:W.cell? (gX b j)=some v)(hne:b≠bs)(hlt:b<W.heap.size):(((W.setCell (gX bs 0) v0).setCell (gX bs 1) v1).setCell (gX bs 2) v2).cell? (gX b j)=some v:=
 ((CM W bs v0 v1 v2).cell (p:=gX b j) hlt hne).trans h
theorem Yp {w w' s t ids e}(h:Ib w t.ss t.ns t.cur ids e w'):∃er T,EI ids s t=⟨s,er,T,default⟩/\DT w er T.ss T.ns T.cur.toNat e w':=by
 unfold Ib at h;unfold EI;by_cases h0:Df t.ns t.cur ids=0
 .rw[AJ h0]at h;rw[AE (by rw[h0];simp)];exact⟨0,_,rfl,h⟩
 rw[AE h0]at h;rw[AJ h0];exact⟨_,default,rfl,h⟩
def K9 (M:Nat->Prop) (w:World) (sb mb cb K:Nat) (r:Tr) (e:Ending) (w':World):Prop:=
 e = .returned (io r.e)/\Env M w' sb mb K r.s/\An w' (λk=>¬M k) cb sb r.c/\r.c.t.ok/\dI (Mc sb mb cb) w w'
theorem RP {M w w1 w' sb mb cb K r e}(h:RG M (Ms sb mb) noJ w1 sb mb cb K r e w')(hb:Below w.heap.size w w1):K9 M w sb mb cb K r e w':=by
 obtain⟨rfl,hE,hC,G,hm,_⟩:=h;exact⟨rfl,hE,hC,G,(dI.of hb).trans (hm.imp λk _ q=>by rcases q with (q|q)|q;exact .inl q;exact .inr (.inl q);exact .inr (.inr q))⟩
theorem Yr:∀args w,(callFunc 67 args).run prog w = .ok (.enter 67 args) w:=enters_of func67 gh rfl
theorem Ys:∀args w,(callFunc 68 args).run prog w = .ok (.enter 68 args) w:=enters_of func68 gh rfl
theorem I2 {M:Nat->Prop}{sb mb cb b}(hn:¬M b)(m1:M sb)(m2:M mb)(m3:M cb):¬(Ms sb mb b\/b=cb):=λq=>by
 rcases q with (q|q)|q
 .exact hn (q▸m1)
 .exact hn (q▸m2)
 exact hn (q▸m3)
def Tb.at_ (t:Tb) (id:UInt64):Sn:=if 0<=DD t.ns id then t.ns.getD (DD t.ns id).toNat default else default
def So.entriesAt (s:So) (t:Tb) (id:UInt64):List En×Nat:=if 0<=DD t.ns id then s.entries (t.at_ id).ms else ([],2)
theorem RQ {t:Tb}{ns}(e:ns.map dL=t.ns)(id):sIx ns id=DD t.ns id:=by
 unfold sIx DD;rw[<-e,Qu]
theorem Yv {t:Tb}{ns}(e:ns.map dL=t.ns)(id):Cg ns (sIx ns id)=t.at_ id:=by
 rw[RQ e];unfold Cg Tb.at_;split
 .rw[<-e,BW,BW,DY];cases ns[(DD (ns.map dL) id).toNat]? with
  | none=>rfl
  | some x=>rfl
 rfl
theorem RR {t:Tb}(h:t.ok)(id):(t.at_ id).ms.length<=8/\∀x∈(t.at_ id).ms,x.size<=24:=by
 obtain⟨_,_,hn⟩:=Gh h;unfold Tb.at_;split
 .rcases Nat.lt_or_ge (DD t.ns id).toNat t.ns.length with hl|hl
  .rw[BW,BF hl];have h2:BJ (t.ns[(DD t.ns id).toNat]).ms=true:=hn _ (List.getElem_mem hl);exact QZ h2
  rw[BW,List.getElem?_eq_none hl];exact⟨AU _,λx hx=>(Bf hx).elim⟩
 exact⟨AU _,λx hx=>(Bf hx).elim⟩
theorem Yw {w w1 w' r e}(h:Js w1 r e w')(hb:Below w.heap.size w w1):Js w r e w':=by
 obtain⟨A,k,out,rfl,ho,hp,G⟩:=h;exact⟨A,k,out,rfl,⟨B4 ho.own hb.size,λx hx=>B4 (ho.ins x hx) hb.size⟩,hp,Ah hb G⟩
theorem Yx (q):∀acc:List En,((acc++q).map En.name).Nodup->q.foldl Ck acc=acc++q:=by
 induction q with
 | nil=>simp
 | cons x q ih=>
   intro acc h;have hn:Ca (acc.map En.name) x.name=false:=by
    apply Bool.eq_false_iff.2;intro r;rw[Ho]at r;rw[Cv,Bv,List.nodup_append]at h;exact h.2.2 _ r _ gj rfl
   have e:Ck acc x=acc++[x]:=by unfold Ck;rw[AE (by rw[hn];simp)]
   rw[List.foldl_cons,e,ih (acc++[x]) (by simpa using h)];simp
theorem Yy {out}(h:(out.map En.name).Nodup)(x):((Ck out x).map En.name).Nodup:=by
 unfold Ck;split
 .exact h
 rename_i hn;rw[Cv,List.nodup_append];refine⟨h,gj,λa ha b hb=>?_⟩;simp only[Bv,Bw,BS]at hb;rw[hb];intro r;rw[r]at ha;exact hn (Ho.2 ha)
theorem Yz (q:List En):∀acc:List En,(acc.map En.name).Nodup->((q.foldl Ck acc).map En.name).Nodup:=by
 induction q with
 | nil=>simp
 | cons x q ih=>exact λacc h=>ih _ (Yy h x)
theorem Z0 (a b):mg (mg a++b)=mg (a++b):=by
 have h:mg (mg a)=mg a:=by
  have:=Yx (mg a) [] (by rw[CN];exact Yz a [] gj);simpa [mg]using this
 unfold mg at h ⊢;rw[List.foldl_append,List.foldl_append,h]
def Mf (s:So) (x:ByteArray):Prop:= ∃l:List En,BR l=0/\Ar s.m x=some ⟨Bq l,false⟩
def MsF (s:So) (ns:List Sn):Prop:= ∀n∈ns,∀x∈n.ms,Mf s x
structure Gr (s s2:So):Prop where
 firm:s2.firm
 sub:∀x t,Ar s.m x=some t->Ar s2.m x=some t
section
variable {s s2 s3:So}
theorem Gr.trans (h:Gr s s2)(k:Gr s2 s3):Gr s s3:=⟨k.firm,λx t q=>k.sub x t (h.sub x t q)⟩
theorem Gr.same (h:s.firm):Gr s s:=⟨h,λ_ _ q=>q⟩
theorem Mf.gr {x}(h:Mf s x)(g:Gr s s2):Mf s2 x:=by
 obtain⟨l,a,b⟩:=h;exact⟨l,a,g.sub _ _ b⟩
theorem MsF.gr {ns}(h:MsF s ns)(g:Gr s s2):MsF s2 ns:=λn hn x hx=>(h n hn x hx).gr g
end
theorem Z8 {s:So}{nm bs}(h:(s.put nm bs).2=0):CR s.m nm=false:=by
 unfold So.put at h;split at h
 .cases h
 split at h
 .cases h
 split at h
 .cases h
 rename_i h3;simpa using h3
theorem GP {s}(hf:s.firm)(c bs):(s.stage c bs).1.cell=s.cell/\Gr s (s.stage c bs).1/\((s.stage c bs).2.2=0->Ar (s.stage c bs).1.m (s.stage c bs).2.1=some ⟨bs,false⟩):=by
 unfold So.stage;split
 .exact⟨rfl,.same hf,λh=>by cases h⟩
 split
 .exact⟨rfl,.same hf,λh=>by cases h⟩
 split
 .exact⟨rfl,.same hf,λh=>by cases h⟩
 generalize F2 c (Cu (Bl s.m)+1)=nm;rcases Xi hf.calm nm bs with ⟨h1,h2⟩|h1
 .rw[h2];exact⟨rfl,.same hf,λh=>absurd h h1⟩
 have hp:(s.put nm bs).2=0:=by
  by_cases h:(s.put nm bs).2=0
  .exact h
  unfold So.stage2 at h1;rw[AJ h]at h1;exact congrArg (λr:So×ByteArray×Nat=>r.2.2) h1
 have hn:=Z8 hp;rw[h1];exact⟨rfl,⟨Xj hf nm bs,λx t q=>(YK (YM hn q)).trans q⟩,λ_=>YL⟩
theorem Lx {s:So}(hf:s.firm)(o nm):((s.swap o nm).2≠0/\(s.swap o nm).1=s)\/s.swap o nm=({ s with cell:=nm },0):=by
 unfold So.swap;split
 .exact .inl ⟨gj,rfl⟩
 split
 .exact .inl ⟨gj,rfl⟩
 split
 .exact .inl ⟨gj,rfl⟩
 rw[I0 hf.calm];exact .inr rfl
theorem Ly {s}(hf:s.firm)(nm):Gr s { s with cell:=nm }:=⟨⟨⟨hf.calm.dead,hf.calm.fuse,hf.calm.fault⟩,hf.all⟩,λ_ _ q=>q⟩
structure Sound (s:So):Prop where
 firm:s.firm
 cur:∃t:Tb,t.ok/\Ar s.m s.cell=some ⟨wrS t.ss t.ns,false⟩/\MsF s t.ns
theorem Sound.gr {s s2}(h:Sound s)(g:Gr s s2)(hc:s2.cell=s.cell):Sound s2:=by
 obtain⟨t,a,b,c⟩:=h.cur;exact⟨g.firm,t,a,by rw[hc];exact g.sub _ _ b,c.gr g⟩
theorem KA {s}(h:Sound s)(c):∃t,s.refresh c=(⟨t,s.cell⟩,0)/\t.ok/\MsF s t.ns:=by
 obtain⟨t,a,b,m⟩:=h.cur;have hg:=RF h.firm.calm.dead b;refine⟨t,?_,a,m⟩;unfold So.refresh;rw[AE (by rw[h.firm.calm.dead];simp),AE (by rw[hg];simp),hg,AE (by show ¬(CD (wrS t.ss t.ns)).2≠0;rw[RD a];simp)];show((⟨(CD (wrS t.ss t.ns)).1,s.cell⟩:Ct),0)=_;rw[RD a]
section
variable {s:So} {c:Ct} {h:Ch} {q:So×Nat} {nm:ByteArray}
structure Kept (s:So) (c:Ct) (r:Tr):Prop where
 ok:Sound r.s
 g:Gr s r.s
 ms:MsF r.s r.c.t.ns
theorem Lz (g:Gr s q.1)(hq:Sound q.1)(hc:MsF s c.t.ns)(h0:q.2=0->MsF q.1 h.t.ns):Kept s c (DX c h q nm):=by
 unfold DX;split
 .rename_i h1;exact⟨hq,g,h0 h1⟩
 split
 .exact⟨hq,g,hc.gr g⟩
 obtain⟨t,e,_,m⟩:=KA hq c;rw[e];split
 .rename_i h1;exact absurd rfl h1
 exact⟨hq,g,m⟩
theorem Z9 (hs:Sound s)(hc:MsF s c.t.ns)(g:Gr s h.s)(hcell:h.s.cell=s.cell)(ht:h.e=0->MsF h.s h.t.ns):Kept s c (CE c h):=by
 have h1:=hs.gr g hcell;unfold CE;split
 .exact⟨h1,g,hc.gr g⟩
 rename_i he;split
 .exact⟨h1,g,hc.gr g⟩
 rename_i hr;obtain⟨a,b,m⟩:=GP g.firm 116 (wrS h.t.ss h.t.ns);generalize h.s.stage 116 (wrS h.t.ss h.t.ns)=st at *;have h2:=h1.gr b a;have ht:=ht (by simpa using he);unfold Jm;by_cases h0:st.2.2=0
 .rw[AJ h0];rcases Lx b.firm c.nm st.2.1 with ⟨e1,e2⟩|e1
  .exact Lz (by rw[e2];exact g.trans b) (by rw[e2];exact h2) hc λe=>absurd e e1
  have g3:=Ly b.firm st.2.1;rw[e1];exact Lz ((g.trans b).trans g3) ⟨g3.firm,h.t,by show B7 _ _ _=true;simpa using hr,m h0,(ht.gr b).gr g3⟩ hc λ_=>(ht.gr b).gr g3
 rw[AE h0];exact Lz (g.trans b) h2 hc λe=>absurd e h0
end
theorem M7 {chg}(hc:∀s t,s.firm->MsF s t.ns->Gr s (chg s t).s/\(chg s t).s.cell=s.cell/\((chg s t).e=0->MsF (chg s t).s (chg s t).t.ns)):∀(k:Nat) (s:So) (c:Ct),Sound s->MsF s c.t.ns->Kept s c (BP chg k s c)
 | 0,s,c,h,m=>⟨h,.same h.firm,m⟩
 | k+1,s,c,h,m=>by
   obtain⟨a,b,d⟩:=hc s c.t h.firm m;have h1:=Z9 h m a b d;show Kept s c (if _ then _ else _);split
   .have h2:=M7 hc k _ _ h1.ok h1.ms;exact⟨h2.ok,h1.g.trans h2.g,h2.ms⟩
   exact h1
theorem MA:∀(l:List Fd) (t:Tb),(B1 t l).2=0->(B1 t l).1.ns=t.ns
 | [],_,_=>rfl
 | f::r,t,h0=>by
   unfold B1 at h0 ⊢;split at h0
   .cases h0
   rename_i h1;rw[AE h1];split at h0
   .rename_i h2;exact absurd h0 h2
   rename_i h2;rw[AE h2];split at h0
   .rename_i h3;exact absurd h0 h3
   rename_i h3;rw[AE h3];exact MA r _ h0
theorem MB {t:Tb}{x}(h:x∈t.now.ms):∃n∈t.ns,x∈n.ms:=by
 unfold Tb.now at h;split at h
 .by_cases hl:t.nowI.toNat<t.ns.length
  .rw[BW,BF hl]at h;exact⟨_,List.getElem_mem hl,h⟩
  rw[BW,List.getElem?_eq_none gd]at h;exact absurd h Bf
 exact absurd h Bf
theorem RT {d s t}(h:(BB d s t).e=0):∃(u:Tb) (sn:Sn) (es:List En) (s2:So) (nm:ByteArray),B1 t d.fs=(u,0)/\s.draft t d u.lastS.1=(0,sn,es)/\BR es=0/\s.stage 109 (Bq es)=(s2,nm,0) /\
 BB d s t=⟨s2,0,⟨u.ss,u.ns++[{ sn with ms:=sn.ms++[nm] }],sn.id⟩,{ sn with ms:=sn.ms++[nm] }⟩:=by
 obtain⟨⟨u,e⟩,hw⟩:∃r,B1 t d.fs=r:=⟨_,rfl⟩;by_cases he:e=0;rotate_left 1
 .rw[Qk hw he]at h;exact absurd h he
 subst he;obtain⟨⟨e2,sn,es⟩,hd⟩:∃r,s.draft t d u.lastS.1=r:=⟨_,rfl⟩;rw[Ql hw hd]at h ⊢;by_cases he:e2=0;rotate_left 1
 .rw[Qm (s:=s) (u:=u) (g:=(e2,sn,es)) he]at h;exact absurd h he
 subst he;by_cases he:BR es=0;rotate_left 1
 .rw[Qn (s:=s) (u:=u) (g:=(0,sn,es)) rfl he]at h;exact absurd h he
 obtain⟨⟨s2,nm,e3⟩,hst⟩:∃r,s.stage 109 (Bq es)=r:=⟨_,rfl⟩;rw[Qo (s:=s) (u:=u) (g:=(0,sn,es)) rfl he hst]at h ⊢;by_cases G:e3=0;rotate_left 1
 .rw[Qp (s:=s) (u:=u) (sn:=sn) (st:=(s2,nm,e3)) G]at h;exact absurd h G
 subst G;by_cases hp:Dw u.ss u.ns { sn with ms:=sn.ms++[nm] } = 0;rotate_left 1
 .rw[Qq (s:=s) (u:=u) (sn:=sn) (st:=(s2,nm,0)) rfl rfl hp]at h;exact absurd h hp
 exact⟨u,sn,es,s2,nm,hw,hd,he,hst,Qr (s:=s) (u:=u) (sn:=sn) (st:=(s2,nm,0)) rfl rfl hp⟩
theorem ZA (d s t):(BB d s t).s=s\/∃bs,(BB d s t).s=(s.stage 109 bs).1:=by
 unfold BB;split
 .exact .inl rfl
 unfold Er;split
 .exact .inl rfl
 split
 .exact .inl rfl
 unfold Ep;split
 .exact .inr ⟨_,rfl⟩
 split
 .exact .inr ⟨_,rfl⟩
 exact .inr ⟨_,rfl⟩
theorem RU {d}{s:So}{t sh sn es}(h:s.draft t d sh=(0,sn,es)):DP t d=0/\((d.rew=false/\sn = { sn1 t.now d sh with ms:=t.now.ms }/\es=FL t.now d)\/(sn=sn1 t.now d sh/\es=E7 t.now d (s.entries t.now.ms).1)):=by
 unfold So.draft at h;split at h
 .rename_i h1;exact absurd (congrArg (λr:Nat×Sn×List En=>r.1) h) h1
 rename_i h1;split at h
 .rename_i h2;exact absurd (congrArg (λr:Nat×Sn×List En=>r.1) h) h2
 refine⟨by simpa using h1,?_⟩;unfold Di at h;split at h
 .cases h
 split at h
 .cases h
 split at h
 .cases h
 split at h
 .cases h
 split at h
 .rename_i h7;injection h with _ h;injection h with e1 e2;exact .inl ⟨h7.1,e1.symm,e2.symm⟩
 injection h with _ h;injection h with e1 e2;exact .inr ⟨e1.symm,e2.symm⟩
theorem RV (nw d sh):(sn1 nw d sh).ms=[]:=(Jw nw d sh).2.2.2.2
theorem RW (d s t)(hf:s.firm)(hm:MsF s t.ns):Gr s (BB d s t).s/\(BB d s t).s.cell=s.cell/\((BB d s t).e=0->MsF (BB d s t).s (BB d s t).t.ns):=by
 have hg:Gr s (BB d s t).s/\(BB d s t).s.cell=s.cell:=by
  rcases ZA d s t with e|⟨bs,e⟩
  .rw[e];exact⟨.same hf,rfl⟩
  rw[e];exact⟨(GP hf 109 bs).2.1,(GP hf 109 bs).1⟩
 refine⟨hg.1,hg.2,λh0=>?_⟩;obtain⟨u,sn,es,s2,nm,hw,hd,he,I,hc⟩:=RT h0;have G:=GP hf 109 (Bq es);rw[I]at G;rw[hc];intro n hn x hx;rcases List.mem_append.1 hn with q|q
 .have hu:=MA d.fs t (by rw[hw]);rw[hw]at hu;exact(hm n (hu▸q) x hx).gr G.2.1
 rw[BS.1 q]at hx;rcases List.mem_append.1 hx with r|r
 .obtain⟨_,⟨_,e,_⟩|⟨e,_⟩⟩:=RU hd
  .rw[e]at r;obtain⟨n2,O,T⟩:=MB r;exact(hm n2 O x T).gr G.2.1
  rw[e,RV]at r;exact absurd r Bf
 rw[BS.1 r];exact⟨es,he,G.2.2 rfl⟩
theorem ZB (f s t)(hf:s.firm)(hm:MsF s t.ns):Gr s (F3 f s t).s/\(F3 f s t).s.cell=s.cell/\((F3 f s t).e=0->MsF (F3 f s t).s (F3 f s t).t.ns):=
 ⟨.same hf,rfl,λh=>by
  have e:(F3 f s t).t.ns=t.ns:=MA [f] t h;rw[e];exact hm⟩
theorem ZC (ids s t)(hf:s.firm)(hm:MsF s t.ns):Gr s (EI ids s t).s/\(EI ids s t).s.cell=s.cell/\((EI ids s t).e=0->MsF (EI ids s t).s (EI ids s t).t.ns):=by
 unfold EI;split
 .rename_i h;exact⟨.same hf,rfl,λh0=>absurd h0 h⟩
 exact⟨.same hf,rfl,λ_ n hn x hx=>hm n (List.mem_filter.1 hn).1 x hx⟩
def fl (s:So) (x:ByteArray):List En:=(opE (s.get x).1).2
theorem KB {s}(hd:s.dead=false){x l}(he:BR l=0)(h:Ar s.m x=some ⟨Bq l,false⟩):s.get x=(Bq l,0)/\fl s x=l:=by
 have hg:=RF hd h;refine⟨hg,?_⟩;unfold fl;rw[hg];show(opE (Bq l)).2=l;rw[RE he]
theorem RX {s}(hd:s.dead=false):∀(ms:List ByteArray) (acc:List (List En)),(∀x∈ms,Mf s x)->s.ents ms acc=(acc++ms.map (fl s),0)
 | [],acc,_=>by simp[So.ents]
 | nm::r,acc,h=>by
   obtain⟨l,he,hl⟩:=h nm (List.mem_cons_self ..);obtain⟨hg,hf⟩:=KB hd he hl;rw[QD (by rw[hg]) (by rw[hg];show(opE (Bq l)).1=0;rw[RE he]),RX hd r _ λx hx=>h x (List.mem_cons_of_mem _ hx)];show(acc++[fl s nm]++_,0)=_;rw[Az];rfl
theorem MC {s}(hd:s.dead=false){ms}(h:∀x∈ms,Mf s x):s.entries ms=(ES (ms.map (fl s)),0):=QF (by rw[RX hd ms [] h];rfl)
theorem ZD {s s2}(hd:s.dead=false)(g:Gr s s2){x}(h:Mf s x):fl s2 x=fl s x:=by
 obtain⟨l,he,hl⟩:=h;rw[(KB hd he hl).2,(KB g.firm.calm.dead he (g.sub _ _ hl)).2]
theorem RY {s t}(hd:s.dead=false)(hok:t.ok)(hm:MsF s t.ns):((s.entriesAt t t.cur).2=0↔0<t.cur.toNat)/\(s.entriesAt t t.cur).1=ES (t.now.ms.map (fl s))/\s.entries t.now.ms=(ES (t.now.ms.map (fl s)),0):=by
 have G:=MC hd (ms:=t.now.ms) λx hx=>by
  obtain⟨n,hn,I⟩:=MB hx;exact hm n hn x I
 have hc:=Ls hok;rcases F5 t.ns.length with h0|h0
 .have hw:CK t.ns t.ns.length=default:=by unfold CK;rw[AJ h0]
  have O:t.cur.toNat=0:=by rw[hw]at hc;exact hc
  have hi:DD t.ns t.cur = -1:=by
   unfold DD;exact Fs λj hj=>gd
  have hn:t.now.ms=[]:=by rw[YN hok,hw];rfl
  refine⟨?_,?_,G⟩
  .unfold So.entriesAt;rw[hi,AE gm,O];simp
  unfold So.entriesAt;rw[hi,AE gm,hn];rfl
 have hw:=RB h0;have:=RC hok (show t.ns.length-1<t.ns.length by omega);rw[hw]at hc;have hi:DD t.ns t.cur=((t.ns.length-1:Nat):Int):=by
  unfold DD;refine FA (show t.ns.length-1<t.ns.length by omega) ?_ λj hj=>?_
  .rw[hc];simp
  have:=Lr hok j (t.ns.length-1) hj gd;rw[hc,AQ];omega
 have ha:t.at_ t.cur=t.now:=by
  unfold Tb.at_ Tb.now Tb.nowI;rw[AE (show ¬t.cur.toNat=0 by omega)]
 have he:s.entriesAt t t.cur=s.entries t.now.ms:=by
  unfold So.entriesAt;rw[hi,AJ (Int.natCast_nonneg _),ha]
 rw[he,G];exact⟨⟨λ_=>gd,λ_=>rfl⟩,rfl,rfl⟩
theorem ZE {t ns sn}(hok:t.ok)(h:t.ns=ns++[sn])(s:So):s.entriesAt t sn.id=s.entries sn.ms:=by
 have hl:t.ns.length=ns.length+1:=gz;have hg:t.ns.getD ns.length default=sn:=by rw[h,BW,It (AD _),Nat.sub_self];rfl
 have hi:DD t.ns sn.id=((ns.length:Nat):Int):=by
  unfold DD;refine FA gd ?_ λj hj=>?_
  .rw[hg];simp
  have:=Lr hok j ns.length hj gd;rw[hg]at this;rw[AQ];omega
 unfold So.entriesAt Tb.at_;rw[hi,AJ (Int.natCast_nonneg _),AJ (Int.natCast_nonneg _),BM,hg]
def I3 (seq:UInt64) (d:Dr) (old:List En):List En:=(old.filter λx=>!DO d.drops x.name)++d.adds.map λx=>if d.rew=true then x else Id seq x
theorem RZ {nw d sh old}:I3 (sn1 nw d sh).seq d old=E7 nw d old:=by
 unfold I3 E7 FL sn1;cases d.rew with
 | true=>simp
 | false=>simp
structure Tg where
 nm:ByteArray
 bs:List UInt8
 lo:Bool
 A:Option Addr
 c:Nat
instance:Inhabited Tg:=⟨⟨ByteArray.empty,[],false,none,0⟩⟩
def thV (x:Tg):List Value:=[.string x.nm,.slice x.A x.bs.length x.c,.bool x.lo]
def Il (l:List Tg):List Value:=l.flatMap thV
theorem KD (x):(thV x).length=3:=rfl
theorem MM (x):∀u∈thV x,u.oneCell'=true:=by
 intro u hu;simp only[thV,List.mem_cons,Bf,or_false]at hu;rcases hu with rfl|rfl|rfl<;>rfl
theorem MN:STy prog 69 207 3 48 (.agg #[.string ByteArray.empty,ir,.bool false]):=⟨underlying69,gh,rfl,gm,gm⟩
def I64 (x:Int):Prop:= -9223372036854775808<=x/\x<=9223372036854775807
structure RwQ (w:World) (M R:Nat->Prop) (rb K:Nat) (q:Int) (A:Option Addr) (c:Nat) (ts:List Tg) (cs:ByteArray):Prop where
 bx:dH w rb [io q,.slice A ts.length c,.string cs,io (-1),io (-1),.bool false]
 row:w.ownsRow 0 207 3 (.slice A ts.length c) ts.length (Il ts)
 at_:∀b off,A=some ⟨b,off,none⟩->R b/\b≠rb
 ins:∀x∈ts,dM w (λk=>¬M k) 1 x.A x.bs.length x.c (AO x.bs)
 q0:I64 q
 rb_:R rb
 sub:∀k,R k->M k
 lt:∀k,M k->k<w.heap.size
 kk:ts.length<=K
 nms:∀x∈ts,x.nm.size<=24
section
variable {w w':World} {M R:Nat->Prop} {rb K c:Nat} {q:Int} {A:Option Addr} {ts:List Tg} {cs:ByteArray}
theorem RwQ.own (h:RwQ w M R rb K q A c ts cs){g}(hg:(Value.slice A ts.length c).ownBlock=some g):R g/\g≠rb:=by
 cases hA:A with
 | none=>rw[hA]at hg;cases hg
 | some a=>
   obtain⟨b,off,sp⟩:=a;rw[hA]at hg;injection hg with hg;have hg:b=g:=hg;subst hg;have hr:=h.row.2;rw[hA]at hr;rcases hr with ⟨q,_⟩|⟨g2,_,_,q,_⟩
   .cases q
   injection q with q;injection q with q;injection q with q1 q2 q3;subst q3;exact h.at_ b off hA
theorem RwQ.el (h:RwQ w M R rb K q A c ts cs){i}(hi:i<ts.length):∃b off,A=some ⟨b,off,none⟩/\∀x,ts.getD i default=x->w.cell? (gX b (off+i * 3))=some (.string x.nm)/\w.cell? (gX b (off+i * 3+1))=some (.slice x.A x.bs.length x.c)/\w.cell? (gX b (off+i * 3+2))=some (.bool x.lo):=by
 obtain⟨b,off,e,_,hc⟩:=Rd.el thV 3 KD (Ay h.row) hi gd;refine⟨b,off,e,λx hx=>?_⟩;subst hx;exact⟨hc 0 _ rfl,hc 1 _ rfl,hc 2 _ rfl⟩
theorem RwQ.len (h:RwQ w M R rb K q A c ts cs):ts.length<=9223372036854775807:=by have:=(Ay h.row).le;have h2:=(Ay h.row).cap;unfold maxLen at h2;omega
theorem RwQ.mst {N}(h:RwQ w M R rb K q A c ts cs)(m:dI N w w')(hN:∀k,N k->M k/\¬R k):RwQ w' M R rb K q A c ts cs:=
 ⟨m.box h.bx λk=>(hN _ k).2 h.rb_,Bn h.row λg hg hl=>m.block g hl λk=>(hN g k).2 (h.own hg).1,h.at_,λx hx=>m.rdq (h.ins x hx) λ_ hk k=>hk (hN _ k).1,h.q0,h.rb_,h.sub,λk hk=>AV (h.lt k hk) m.size,h.kk,h.nms⟩
end
structure Grw (M R:Nat->Prop) (w:World) (M' R':Nat->Prop) (w':World):Prop where
 m:dI R w w'
 mm:∀k,M k->M' k
 mn:∀k,M' k->k<w.heap.size->M k
 rr:∀k,R k->R' k
 rn:∀k,R' k->k<w.heap.size->R k
theorem Grw.refl (M R w):Grw M R w M R w:=⟨.refl _ _,λ_ h=>h,λ_ h _=>h,λ_ h=>h,λ_ h _=>h⟩
theorem Grw.same {M R w w'}(m:dI R w w'):Grw M R w M R w':=⟨m,λ_ h=>h,λ_ h _=>h,λ_ h=>h,λ_ h _=>h⟩
theorem Grw.trans {M R M1 R1 M2 R2 w w1 w2}(h:Grw M R w M1 R1 w1)(k:Grw M1 R1 w1 M2 R2 w2):Grw M R w M2 R2 w2:=
 ⟨⟨k.m.os.trans h.m.os,k.m.tape.trans h.m.tape,k.m.output.trans h.m.output,AS h.m.size k.m.size,λi hi h1=>(k.m.block i (AV hi h.m.size) λq=>h1 (h.rn i q hi)).trans (h.m.block i hi h1)⟩,
  λi q=>k.mm i (h.mm i q),λi q hi=>h.mn i (k.mn i q (AV hi h.m.size)) hi,λi q=>k.rr i (h.rr i q),λi q hi=>h.rn i (k.rn i q (AV hi h.m.size)) hi⟩
def I5 (M R:Nat->Prop) (w:World) (rb K:Nat) (G:Int->List Tg->ByteArray->Prop) (e:Ending) (w':World):Prop:= ∃k q A c ts cs M' R',e = .returned (io k)/\Grw M R w M' R' w'/\RwQ w' M' R' rb K q A c ts cs/\G k ts cs
theorem MO {w M R rb K c q A ts cs}(h:RwQ w M R rb K q A c ts cs)(nm):Calls prog 119 #[iq rb 0,.string nm] w λe w'=>∃k:Int,e = .returned (io k)/\-1<=k/\k<ts.length/\w=w'/\ga (∀x,ts=[x]->x.nm=nm->k=0):=by
 have c1:=h.bx.cell 1 _ rfl;have:=h.len;go_enter func119,ntmps119;go_wp2_with fail
 go_loop [5] (λiv=>∃k:Nat,iv = io k/\k<=ts.length/\ga (∀x,ts=[x]->x.nm=nm->k=0)) (λiv=>ts.length-(intOf iv).toNat);case atStart=>exact⟨0,rfl,AU _,AB λ_ _ _=>rfl⟩
 case round=>
  obtain⟨k,rfl,hk,hG⟩:=hrel;by_cases G:k<ts.length
  .obtain⟨b,off,hA,hx⟩:=h.el G;obtain⟨x0,_,_⟩:=hx _ rfl;rw[hA]at c1;obtain⟨x,I⟩:=ia (ts.getD k default);rw[I]at x0;have O:=AB I;clear I hx;obtain⟨b2,T⟩:=ia (x.nm.toList==nm.toList);cases b2 with
   | true=>
     (go_wp2_with fail);go_ret;exact⟨k,rfl,gd,gd,rfl,AB λy hy _=>by rw[hy]at G;simpa using G⟩
   | false=>
     (go_wp2_with fail);go_round;case rel=>exact⟨k+1,by go_num,G,AB λy hy e=>absurd T (by
      have hd:=O.o;rw[hG.o y hy e,hy]at hd;have hd:y=x:=hd;rw[<-hd,e];simp)⟩
     case measure=>simp[intOf];omega
  go_wp2_with fail
  go_ret;exact⟨-1,rfl,gd,gd,rfl,AB λy hy e=>by have:=hG.o y hy e;rw[hy]at G;simp at G;omega⟩
theorem eC {w M R rb K c q A ts cs}(h:RwQ w M R rb K q A c ts cs):Calls prog 140 #[iq rb 0] w λe w'=>∃k:Int,e = .returned (io k)/\w=w'/\ga (ts=[]->k=0):=by
 have c1:=h.bx.cell 1 _ rfl;have:=h.len;go_enter func140,ntmps140;go_wp2_with fail
 go_loop [3,4] (λnv iv=>∃(n:Int) (k:Nat),nv = io n/\iv = io k/\k<=ts.length/\ga (k=0->n=0)) (λ_ iv=>ts.length-(intOf iv).toNat);case atStart=>exact⟨0,0,rfl,rfl,AU _,AB λ_=>rfl⟩
 case round=>
  obtain⟨n,k,rfl,rfl,hk,hG⟩:=hrel;by_cases G:k<ts.length
  .obtain⟨b,off,hA,hx⟩:=h.el G;obtain⟨_,x1,_⟩:=hx _ rfl;rw[hA]at c1;generalize ts.getD k default=x at *;(go_wp2_with fail);go_round;case rel=>exact⟨_,k+1,rfl,by go_num,G,AB λe=>gd⟩
   case measure=>simp[intOf];omega
  go_wp2_with fail
  go_ret;exact⟨n,rfl,rfl,AB λe=>hG.o (by rw[e]at hk;simpa using hk)⟩
theorem MP {w M R rb K c q A ts cs}(h:RwQ w M R rb K q A c ts cs):Calls prog 120 #[iq rb 0] w λe w'=>e = .returned (io 0)/\w=w':=by
 obtain⟨-,-,-,c3,c4⟩:=h.bx.c5;have:((-1:Int)==0)=false:=rfl;have:decide ((0:Int) < -1)=false:=rfl;have:decide ((0:Int)<=-1)=false:=rfl;go_enter func120,ntmps120;go_wp2_with fail
 go_ret;exact⟨rfl,rfl⟩
def Got (ts:List Tg) (B:Option Addr) (k:Nat) (l:List UInt8):Prop:=(B=none/\k=0/\l=[])\/∃x∈ts,B=x.A/\k=x.c/\l=x.bs
theorem RwQ.got {w M R rb K c k q A B ts cs l}(h:RwQ w M R rb K q A c ts cs)(g:Got ts B k l):dM w (λk=>¬M k) 1 B l.length k (AO l):=by
 rcases g with ⟨rfl,rfl,rfl⟩|⟨x,hx,rfl,rfl,rfl⟩
 .exact .nil _ _ _
 exact h.ins x hx
theorem Ru {w M R rb K c q A ts cs}(h:RwQ w M R rb K q A c ts cs)(nm):Calls prog 65 #[iq rb 0,.string nm] w λe w'=>∃(B:Option Addr) (k:Nat) (l:List UInt8) (er:Int),e = .returned (.tuple #[.slice B l.length k,io er])/\Got ts B k l/\w=w'/\ga (∀x,ts=[x]->x.nm=nm->er=0/\l=x.bs):=by
 obtain⟨-,c1,-,-,-,c5⟩:=h.bx.c6;have:=h.len;have:=AB h;go_enter func65,ntmps65;go_wp2_with fail
 refine(MO h nm).mono ?_;rintro e w2 ⟨k,rfl,hk1,hk2,rfl,HG⟩;by_cases hn:k<0
 .have t:decide (k<0)=true:=AF hn;go_wp2_with fail
  go_ret2;exact⟨none,0,[],_,rfl,.inl ⟨rfl,rfl,rfl⟩,rfl,AB λy hy e=>by have:=HG.o y hy e;omega⟩
 have t:decide (k<0)=false:=AG hn;obtain⟨j,rfl⟩:=Int.eq_ofNat_of_zero_le (show 0<=k by omega);have O:j<ts.length:=gd;obtain⟨b,off,hA,hx⟩:=h.el O;obtain⟨_,x1,_⟩:=hx _ rfl;have G:=B9 O;rw[hA]at c1;obtain⟨x,I⟩:=ia (ts.getD j default);rw[I]at x1 G;have T:=AB I;have V:=AB G;clear h hx G I;go_wp2_with fail
 go_ret2;exact⟨x.A,x.c,x.bs,0,rfl,.inr ⟨x,V.o,rfl,rfl,rfl⟩,rfl,AB λy hy e=>⟨rfl,by
  have:=HG.o y hy e;obtain rfl:j=0:=gd;have hd:=T.o;rw[hy]at hd;have hd:y=x:=hd;rw[hd]⟩⟩
theorem RwQ.end_ {w w' M R rb K c q A ts cs}(h:RwQ w' M R rb K q A c ts cs)(m:dI R w w'){k G}(g:G k ts cs):I5 M R w rb K G (.returned (io k)) w':=⟨k,q,A,c,ts,cs,M,R,rfl,.same m,h,g⟩
def eD (ts:List Tg) (cs old new:ByteArray) (k:Int) (t:List Tg) (c:ByteArray):Prop:=t=ts/\(cs=old->Aq new=true->k=0/\c=new)
theorem Rw:∀(l:List Tg) (i:Nat) (x:Tg),l[i]? = some x->Il (l.set i { x with lo:=false })=(Il l).set (i * 3+2) (.bool false)
 | a::l,0,x,h=>by
   have h:a=x:=by simpa using h
   subst h;rfl
 | a::l,i+1,x,h=>by
   have ih:=Rw l i x (by simpa using h);rw[show(i+1) * 3+2=i * 3+2+1+1+1 by omega];show thV a++Il (l.set i _)=(.string a.nm :: .slice a.A a.bs.length a.c :: .bool a.lo::Il l).set (i * 3+2+1+1+1) (.bool false);rw[ih];rfl
def eE (ts:List Tg) (cs nm:ByteArray) (k:Int) (t:List Tg) (c:ByteArray):Prop:=c=cs/\∀x,ts=[x]->x.nm=nm->k=0/\t=[{ x with lo:=false }]
theorem eF {w M R rb K c q A ts cs}(h:RwQ w M R rb K q A c ts cs)(nm):Calls prog 133 #[iq rb 0,.string nm] w (I5 M R w rb K (eE ts cs nm)):=by
 have c5:=h.bx.cell 5 _ rfl;go_enter func133,ntmps133;go_wp2_with fail
 refine(MO h nm).mono ?_;rintro e w1 ⟨k,rfl,k1,k2,rfl,HG⟩;by_cases hk:k<0
 .have V:decide (k<0)=true:=AF hk;go_wp2_with fail
  go_ret;exact h.end_ (.refl _ _) ⟨rfl,λy hy e=>by have:=HG.o y hy e;omega⟩
 have V:decide (k<0)=false:=AG hk;obtain⟨i,rfl⟩:=Int.eq_ofNat_of_zero_le (show 0<=k by omega);have hi:i<ts.length:=gd;clear hk k1 k2;go_wp2_with fail
 refine(MP h).mono ?_;rintro e w1 ⟨rfl,rfl⟩;have c1:=h.bx.cell 1 _ rfl;obtain⟨g,cap,hv,ab,_⟩:=h.row.form gd;injection hv with q1 q2 q3;have G:=h.row;have I:=h.at_ g 0 q1;have aa:=h.len;rw[q1,q3]at G c1;have ad:=G.frozenAt (i * 3+2);obtain⟨x,hx⟩:∃x,ts[i]? = some x:=⟨_,BF hi⟩;have O:=(G.stored (i * 3+2) (.bool false)).1;rw[<-Rw ts i x hx]at O;have ae:w.cell? (gX g (i * 3+2))=some (.bool x.lo):=by
  obtain⟨b,off,e1,hc⟩:=h.el hi;rw[q1]at e1;injection e1 with e1;injection e1 with e1 e2;subst e1 e2;have:=(hc x (by rw[BW,hx];rfl)).2.2;rw[BL]at this;exact this
 have HS:=AB O;have HR:=gV h I q1 q3 hx HG.o;clear O G h I q1 q3 hx HG;go_wp2_with fail
 go_ret;obtain⟨h,I,q1,q3,hx,HG⟩:=HR.o;have T:(ts.set i { x with lo:=false }).length=ts.length:=List.length_set;refine RwQ.end_ (w:=w) (w':=w.setCell (gX g (i * 3+2)) (.bool false)) (q:=q) (A:=A) (c:=c) (ts:=ts.set i { x with lo:=false }) (cs:=cs) ⟨?_,?_,h.at_,λy hy=>?_,h.q0,h.rb_,h.sub,by simpa using h.lt,by rw[T];exact h.kk,λy hy=>?_⟩ ⟨rfl,rfl,rfl,gj,λm hm h2=>Below.heap_setCell _ _ _ _ (λe=>h2 (by rw[e];exact I.1))⟩ ⟨rfl,λy hy e=>⟨rfl,?_⟩⟩
 .rw[T];exact h.bx.else (p:=gX g (i * 3+2)) (λe=>I.2 e) _
 .rw[T,q1,q3];exact HS.o
 .have Z:∃y2∈ts,y.A=y2.A/\y.bs=y2.bs/\y.c=y2.c:=by
   rcases List.mem_or_eq_of_mem_set hy with e|e
   .exact⟨y,e,rfl,rfl,rfl⟩
   exact⟨x,List.mem_of_getElem? hx,by rw[e],by rw[e],by rw[e]⟩
  obtain⟨y2,hm,a1,a2,a3⟩:=Z;rw[a1,a2,a3];exact(h.ins y2 hm).keep gj λp hp _=>(CL (p:=gX g (i * 3+2)) (q:=p) (λe=>hp (by rw[show p.block=g from e];exact h.sub _ I.1)) _).1
 .rcases List.mem_or_eq_of_mem_set hy with e|e
  .exact h.nms y e
  rw[e];exact h.nms x (List.mem_of_getElem? hx)
 have af:=HG y hy e;obtain rfl:i=0:=gd;rw[hy]at hx ⊢;injection hx with hx;rw[<-hx];rfl
theorem eG (w)(M:Nat->Prop)(hM:∀k,M k->k<w.heap.size)(q)(q0:I64 q):Calls prog 54 #[.int .i64 q] w λe w'=>e = .returned (.pointer (gY w.heap.size 0))/\RwQ w' (λk=>M k\/k=w.heap.size) (λk=>k=w.heap.size) w.heap.size 0 (max 0 q) none 0 [] ByteArray.empty/\Below w.heap.size w w'/\w'.heap.size=w.heap.size+1:=by
 obtain⟨x,hb⟩:=gZ w #[.int .i64 (max 0 q),.slice none 0 0,.string ⟨#[]⟩,.int .i64 (-1),.int .i64 (-1),.bool false] 71;have hz:(w.alloc (.cells #[.int .i64 (max 0 q),.slice none 0 0,.string ⟨#[]⟩,.int .i64 (-1),.int .i64 (-1),.bool false] 71)).heap.size=w.heap.size+1:=gj;have hq:I64 (max 0 q):=⟨gd,by have:=q0.2;omega⟩;go_enter func54,ntmps54;go_wp2_with fail
 go_ret;exact⟨rfl,⟨x,Av _ _ _ _,λb off q=>gu,λx hx=>(by cases hx),hq,rfl,λk hk=>.inr hk,λk hk=>hk.elim (λq=>by have:=hM k q;omega) (λq=>gd),AD _,λx hx=>(by cases hx)⟩,hb,hz⟩
theorem FO {α:Type}{enc : α->List Value}{t e sz by_ z ops rest o a Q}(T:STy prog t e sz by_ z)(hgd:o.guard=none)(s x)(ho:o.op = .call { callee:=.builtin .append,args:=#[s,x],argTypes:=#[t,t] }){wr B oc oA}{out:List α}(hown:wr.ownsRow B e sz (.slice oA out.length oc) out.length (out.flatMap enc))(hB:B<=wr.heap.size)(y : α)(hk:∀a,(enc a).length=sz)(h1:∀u∈enc y,u.oneCell'=true)(hs:a.eval s = .slice oA out.length oc)(hx:a.eval x = .slice (gY wr.heap.size 0) 1 1)(hb:(out.length+1) * by_<=140737488355328)(h:∀g c w',w'.ownsRow B e sz (.slice (gY g 0) (out++[y]).length c) (out++[y]).length ((out++[y]).flatMap enc)->Below B wr w'->B<=g->wpList prog ops Q rest (a.put o.dst (.slice (gY g 0) (out.length+1) c)) w'):
 wpList prog ops Q (o::rest) a (wr.alloc (.cells (enc y).toArray e)):=by
 have I:=hI wr (.cells (enc y).toArray e);have O:=Ag hown I;have V:=Rd.lit (n:=1) (sz:=sz) wr e (enc y).toArray (by simp[hk]) gn;have hz:B<=(wr.alloc (.cells (enc y).toArray e)).heap.size:=AS hB I.size;refine Aw _ T hgd s x ho B _ out.length (out.flatMap enc) hs O (wr.heap.size+1) _ 1 1 (enc y) hx (by simpa using V) h1 hb hz ?_;intro v w' G hg _;obtain⟨g,cap,rfl,Z,_⟩:=G.form gd;have aa:=Au ((AC B wr).alloc hB (.cells (enc y).toArray e)) (AD _) O hg hz;exact h g cap w' (by rw[AR,List.flatMap_append];simpa using G) aa Z
theorem RwQ.kle {w M R rb K K2 c q A ts cs}(h:RwQ w M R rb K q A c ts cs)(hk:K<=K2):RwQ w M R rb K2 q A c ts cs:=⟨h.bx,h.row,h.at_,h.ins,h.q0,h.rb_,h.sub,h.lt,AS h.kk hk,h.nms⟩
structure ThO (w:World) (B:Nat) (M:Nat->Prop) (A:Option Addr) (c:Nat) (out:List Tg):Prop where
 own:w.ownsRow B 207 3 (.slice A out.length c) out.length (out.flatMap thV)
 ins:∀x∈out,dM w (λk=>¬M k/\k<B) 1 x.A x.bs.length x.c (AO x.bs)
 z:B<=w.heap.size
 nms:∀x∈out,x.nm.size<=24
theorem ThO.more {w w' B c g c2 M A out}(h:ThO w B M A c out){y}(hy:dM w (λk=>¬M k/\k<B) 1 y.A y.bs.length y.c (AO y.bs))(hb:Below B w w')(hn:y.nm.size<=24)(ho:w'.ownsRow B 207 3 (.slice (gY g 0) (out++[y]).length c2) (out++[y]).length ((out++[y]).flatMap thV)):ThO w' B M (gY g 0) c2 (out++[y]):=
 ⟨ho,λx hx=>by
  rcases List.mem_append.1 hx with hx|hx
  .exact(h.ins x hx).keep hb.size λp hp _=>hb.cell hp.2
  .rw[BS.1 hx];exact hy.keep hb.size λp hp _=>hb.cell hp.2,AS h.z hb.size,λx hx=>by
  rcases List.mem_append.1 hx with hx|hx
  .exact h.nms x hx
  .rw[BS.1 hx];exact hn⟩
theorem RwQ.lay {w w5 wr M R rb K c oc q A oA ts out cs}(hR:RwQ w5 M R rb K q A c ts cs)(T:ThO wr w5.heap.size M oA oc out)(hb:Below w5.heap.size w5 wr)(hl:out.length<=K+1)(hm:dI R w w5)(hM:∀k,M k->k<w.heap.size):∃M' R',Grw M R w M' R' (wr.setCell (gX rb 1) (.slice oA out.length oc))/\RwQ (wr.setCell (gX rb 1) (.slice oA out.length oc)) M' R' rb (K+1) q oA oc out cs:=by
 obtain⟨N,hN⟩:∃N:Nat->Prop,N=λk=>(Value.slice oA out.length oc).ownBlock=some k:=⟨_,rfl⟩;have G:∀k,N k->w5.heap.size<=k/\k<wr.heap.size:=λk hk=>T.own.lt k (by rw[hN]at hk;exact hk);have:=hm.size;have:=hb.size;refine⟨λk=>M k\/N k,λk=>R k\/N k,⟨(hm.trans (dI.of hb)).trans ⟨rfl,rfl,rfl,gj,λk _ hk=>Below.heap_setCell _ _ _ _ (λe=>hk (by rw[e];exact hR.rb_))⟩,λk h=>.inl h,λk h hl=>h.elim id (λn=>by have:=(G k n).1;omega),λk h=>.inl h,λk h hl=>h.elim id (λn=>by have:=(G k n).1;omega)⟩,?_⟩;exact⟨(hR.bx.keep hb hR.bx.z).set (j:=1) (.slice oA out.length oc) rfl,B4 (B6 T.own (a:=gX rb 1) (show rb<w5.heap.size from hR.bx.z) _) (AU _),λb off e=>by
  have hn:N b:=by rw[hN,e];rfl
  exact⟨.inr hn,by have:=(G b hn).1;have:=hR.bx.z;omega⟩,λx hx=>((T.ins x hx).keep gj (λp hp _=>(CL (p:=gX rb 1) (q:=p) (λe=>hp.1 (by rw[show p.block=rb from e];exact hR.sub _ hR.rb_)) _).1)).imp (λk hk _ n=>n.elim hk.1 (λn=>by have:=(G k n).1;have:=hk.2;omega)),hR.q0,.inl hR.rb_,λk h=>h.imp (hR.sub k) id,λk h=>by
  show k<(wr.setCell _ _).heap.size;rw[World.size_setCell];exact h.elim (λm=>by have:=hM k m;omega) (λn=>(G k n).2),hl,T.nms⟩
def MQ (q:Int) (ts:List Tg) (cs nm:ByteArray) (bs:List UInt8) (k:Int) (t:List Tg) (c:ByteArray):Prop:=c=cs/\(ts=[]->Aq nm=true->bs.length<=65536->(bs.length:Int)<=q->k=0/\∃A c,t=[⟨nm,bs,true,A,c⟩])
theorem eI (w s)(hs:s.size<=9223372036854775807):Calls prog 181 #[.string s] w λe w'=>(∃k:Int,e = .returned (io k))/\w=w':=by
 go_enter func181,ntmps181;by_cases I:s.size<16
 .have t:=gG s.size 16;go_wp2_with fail
  go_ret;exact⟨⟨_,rfl⟩,rfl⟩
 have t:=gH s.size 16;have h0:0<s.size:=gd;have h1:1<s.size:=gd;obtain⟨x,hx⟩:=ia ((s[0]'h0).toNat);obtain⟨y,hy⟩:∃x,(s[1]'h1).toNat=x:=⟨_,rfl⟩;obtain⟨b1,a1⟩:∃b,decide ((x:Int)<97)=b:=⟨_,rfl⟩;obtain⟨b2,a2⟩:∃b,decide ((122:Int)<(x:Int))=b:=⟨_,rfl⟩;obtain⟨b3,a3⟩:∃b,((y:Int)==48)=b:=⟨_,rfl⟩;go_upto_region 1 with fail
 go_cut [21] from 4 to 21 (λv wx=>∃b,v = .bool b/\w=wx);case first=>cases b1<;>cases b2<;>cases b3<;>(go_wp2_with fail;go_meet;exact⟨_,rfl,rfl⟩)
 case rest=>
  obtain⟨b,rfl,hw⟩:=hcut;subst hw;cases b with
  | true=>
    (go_wp2_with fail);go_ret;exact⟨⟨_,rfl⟩,rfl⟩
  | false=>
    (go_wp2_with fail);go_loopw [3] (λiv wr=>∃k:Nat,iv = io k/\k<=s.size/\w=wr) (λiv _=>s.size-(intOf iv).toNat);case atStart=>exact⟨1,rfl,gd,rfl⟩
    case round=>
     obtain⟨k,rfl,hk,rfl⟩:=hrel;by_cases G:k<s.size
     .obtain⟨z,hz⟩:∃x,(s[k]'G).toNat=x:=⟨_,rfl⟩;obtain⟨c1,e1⟩:∃b,decide ((z:Int)<48)=b:=⟨_,rfl⟩;obtain⟨c2,e2⟩:∃b,decide ((57:Int)<(z:Int))=b:=⟨_,rfl⟩;cases c1 with
      | true=>
        (go_wp2_with fail);go_ret;exact⟨⟨_,rfl⟩,rfl⟩
      | false=>
        cases c2 with
        | true=>
          (go_wp2_with fail);go_ret;exact⟨⟨_,rfl⟩,rfl⟩
        | false=>
          (go_wp2_with fail);go_roundw;case rel=>exact⟨k+1,by go_num,G,trivial⟩
          case measure=>simp[intOf];omega
     (go_wp2_with fail);go_ret;exact⟨⟨_,rfl⟩,rfl⟩
theorem eJ {n k}(h:n<10^k)(hk:k<=14):n<100000000000000:=AV h (Nat.pow_le_pow_right (n:=10) gm hk)
def Rx (q:Int) (ts:List Tg) (cs:ByteArray) (ch:UInt8) (bs:List UInt8) (nm:ByteArray) (k:Int) (t:List Tg) (c:ByteArray):Prop:=c=cs/\(ts=[]->ch=116->bs.length<=65536->(bs.length:Int)<=q->k=0/\nm=⟨#[116,49]⟩/\∃A c,t=[⟨nm,bs,false,A,c⟩])
def Ry (M R:Nat->Prop) (w:World) (rb K:Nat) (G:ByteArray->Int->List Tg->ByteArray->Prop) (e:Ending) (w':World):Prop:= ∃nm k q A c ts cs M' R',e = .returned (.tuple #[.string nm,io k])/\nm.size<=2147483648/\Grw M R w M' R' w'/\RwQ w' M' R' rb K q A c ts cs/\G nm k ts cs
theorem RwQ.low {w w' M R rb K c q A ts cs}(h:RwQ w M R rb K q A c ts cs)(hb:Below w.heap.size w w'):RwQ w' M R rb K q A c ts cs:=h.mst (N:=λ_=>False) (.of hb) λ_ q=>q.elim
theorem Grw.low {M R w w'}(hb:Below w.heap.size w w'):Grw M R w M R w':=.same (.of hb)
theorem KE:Aq ⟨#[116,49]⟩=true:=gm
structure Kt where
 sA:Option Addr
 sc:Nat
 ss:List Sl
 nA:Option Addr
 nc:Nat
 ns:List Nl
 cur:UInt64
instance:Inhabited Kt:=⟨⟨none,0,[],none,0,[],0⟩⟩
def ktV (x:Kt):List Value:=[.slice x.sA x.ss.length x.sc,.slice x.nA x.ns.length x.nc,il x.cur.toNat]
theorem eL (x):(ktV x).length=3:=rfl
theorem Rz (x):∀u∈ktV x,u.oneCell'=true:=by
 intro u hu;simp only[ktV,List.mem_cons,Bf,or_false]at hu;rcases hu with rfl|rfl|rfl<;>rfl
def Kt.ok (x:Kt):Prop:=B7 (x.ss.map dK) (x.ns.map dL) x.cur.toNat=true
def KtQ (w:World) (P:Nat->Prop) (x:Kt):Prop:=dJ w P x.sA x.sc x.ss x.nA x.nc x.ns
theorem S0:STy prog 134 39 3 56 (.agg Aa):=⟨underlying134,gh,rfl,gm,gm⟩
theorem S3 {α:Type}{enc : α->List Value}{t e sz by_ z}{o:Oper}{a K Q}(T:STy prog t e sz by_ z)(s x)(ho:o.op = .call { callee:=.builtin .append,args:=#[s,x],argTypes:=#[t,t] }){w oc B oA LA}{out:List α}(hown:w.ownsRow 0 e sz (.slice oA out.length oc) out.length (out.flatMap enc))(y : α)(h1:∀u∈enc y,u.oneCell'=true)(hs:a.eval s = .slice oA out.length oc)(hx:a.eval x = .slice LA 1 1)(hr:Rd w B sz LA 1 1 (enc y))(hb:(out.length+1) * by_<=140737488355328)(h:∀g c w',w'.ownsRow 0 e sz (.slice (gY g 0) (out++[y]).length c) (out++[y]).length ((out++[y]).flatMap enc)->dI (λk=>(Value.slice oA out.length oc).ownBlock=some k) w w'->((Value.slice oA out.length oc).ownBlock=some g\/w.heap.size<=g)->g<w'.heap.size->K (a.put o.dst (.slice (gY g 0) (out.length+1) c)) w'):
 o.wp prog a w K Q:=by
 refine Mm _ T s x ho 0 _ out.length (out.flatMap enc) hs hown B _ 1 1 (enc y) hx hr h1 hb (AU _) ?_;intro v w' G hg hv;obtain⟨g,cap,rfl,_,_⟩:=G.form gd;refine h g cap w' (by rw[AR,List.flatMap_append];simpa using G) ⟨hg.os,hg.tape,hg.output,hg.size,λk hl hn=>hg.block k hl λe=>hn e.symm⟩ ?_ ((G.lt g rfl).2);rcases hv with e|e
 .exact .inl e.symm
 injection e with e;exact .inr (by rw[show g=w.heap.size from e];exact AD _)
section
variable {w w':World} {M R M' R':Nat->Prop}
theorem dJ.grw {sA nA sc nc ss ns}(h:dJ w (λk=>¬M k) sA sc ss nA nc ns)(g:Grw M R w M' R' w')(hR:∀k,R k->M k):dJ w' (λk=>¬M' k) sA sc ss nA nc ns:=
 ((h.imp (Q:=λk=>¬M' k/\¬M k) λk hk hl=>⟨λq=>hk (g.mn k q hl),hk⟩).mst g.m λk hk q=>hk.2 (hR k q)).imp λ_ hk _=>hk.1
theorem EnQ.grw {A c l}(h:EnQ w (λk=>¬M k) A c l)(g:Grw M R w M' R' w')(hR:∀k,R k->M k):EnQ w' (λk=>¬M' k) A c l:=
 ((h.imp (Q:=λk=>¬M' k/\¬M k) λk hk hl=>⟨λq=>hk (g.mn k q hl),hk⟩).mst g.m λk hk q=>hk.2 (hR k q)).imp λ_ hk _=>hk.1
theorem dM.grw {sz n c A xs}(h:dM w (λk=>¬M k) sz A n c xs)(g:Grw M R w M' R' w')(hR:∀k,R k->M k):dM w' (λk=>¬M' k) sz A n c xs:=
 (g.m.rdq (h.imp (Q:=λk=>¬M' k/\¬M k) λk hk hl=>⟨λq=>hk (g.mn k q hl),hk⟩) λk hk q=>hk.2 (hR k q)).imp λ_ hk _=>hk.1
theorem Grw.imp {S S'}(g:Grw M R w M' R' w')(h1:∀k,R k->S k)(h2:∀k,S k->S' k)(h3:∀k,S' k->k<w.heap.size->S k):Grw M S w M' S' w':=
 ⟨g.m.imp λk _ q=>h1 k q,g.mm,g.mn,h2,h3⟩
end
structure KnR (w:World) (M N:Nat->Prop) (kb K:Nat) (kt:List Kt) (kl:List Ll) (tA:Option Addr) (tc:Nat) (lA:Option Addr) (lc:Nat):Prop where
 bx:dH w kb [.slice tA kt.length tc,.slice lA kl.length lc]
 trow:w.ownsRow 0 39 3 (.slice tA kt.length tc) kt.length (kt.flatMap ktV)
 lrow:w.ownsRow 0 46 1 (.slice lA kl.length lc) kl.length (kl.flatMap llV)
 tat:∀g,(Value.slice tA kt.length tc).ownBlock=some g->N g/\g≠kb
 lat:∀g,(Value.slice lA kl.length lc).ownBlock=some g->N g/\g≠kb
 ne:∀g,(Value.slice tA kt.length tc).ownBlock=some g->(Value.slice lA kl.length lc).ownBlock=some g->False
 tin:∀x∈kt,KtQ w (λk=>¬M k) x/\x.ok
 lin:∀x∈kl,EnQ w (λk=>¬M k) x.A x.c x.l/\BR (x.l.map El.p)=0
 kb_:N kb
 sub:∀k,N k->M k
 kk:kt.length<=K/\kl.length<=K
section
variable {w w':World} {M N:Nat->Prop} {kb K tc lc:Nat} {kt:List Kt} {kl:List Ll} {tA lA:Option Addr}
theorem KnR.mst {U}(h:KnR w M N kb K kt kl tA tc lA lc)(m:dI U w w')(hU:∀k,U k->M k/\¬N k):KnR w' M N kb K kt kl tA tc lA lc:=
 ⟨m.box h.bx λq=>(hU _ q).2 h.kb_,Bn h.trow λg hg hl=>m.block g hl λq=>(hU g q).2 (h.tat g hg).1,Bn h.lrow λg hg hl=>m.block g hl λq=>(hU g q).2 (h.lat g hg).1,h.tat,h.lat,h.ne,
  λx hx=>⟨(h.tin x hx).1.mst m λk hk q=>hk (hU k q).1,(h.tin x hx).2⟩,λx hx=>⟨(h.lin x hx).1.mst m λk hk q=>hk (hU k q).1,(h.lin x hx).2⟩,h.kb_,h.sub,h.kk⟩
theorem KnR.more {M2}(h:KnR w M N kb K kt kl tA tc lA lc)(h1:∀k,M k->M2 k)(h2:∀k,M2 k->k<w.heap.size->M k):KnR w M2 N kb K kt kl tA tc lA lc:=
 ⟨h.bx,h.trow,h.lrow,h.tat,h.lat,h.ne,λx hx=>⟨(h.tin x hx).1.imp λk hk hl q=>hk (h2 k q hl),(h.tin x hx).2⟩,λx hx=>⟨(h.lin x hx).1.imp λk hk hl q=>hk (h2 k q hl),(h.lin x hx).2⟩,h.kb_,λk q=>h1 k (h.sub k q),h.kk⟩
end
def Or1 (N:Nat->Prop) (g k:Nat):Prop:=N k\/k=g
theorem Ba {w w' b}(h:Oth b w w'):dI (λk=>k=b) w w':=.ofOth h rfl
theorem KnR.table {w w1 M N kb K tc lc g c kt kl tA lA}(h:KnR w M N kb K kt kl tA tc lA lc)(hl:∀k,M k->k<w.heap.size)(x)(hx:KtQ w (λk=>¬M k) x)(hok:x.ok)(ho:w1.ownsRow 0 39 3 (.slice (gY g 0) (kt++[x]).length c) (kt++[x]).length ((kt++[x]).flatMap ktV))(m:dI (λk=>(Value.slice tA kt.length tc).ownBlock=some k) w w1)(hg:(Value.slice tA kt.length tc).ownBlock=some g\/w.heap.size<=g):
 Grw M N w (Or1 M g) (Or1 N g) (w1.setCell (gX kb 0) (.slice (gY g 0) (kt++[x]).length c))/\KnR (w1.setCell (gX kb 0) (.slice (gY g 0) (kt++[x]).length c)) (Or1 M g) (Or1 N g) kb (K+1) (kt++[x]) kl (gY g 0) c lA lc:=by
 have:=hl kb (h.sub kb h.kb_);have G:g≠kb:=by rcases hg with q|q;exact(h.tat g q).2;omega
 have o:=Ba ((Oth.refl kb w1).set 0 (.slice (gY g 0) (kt++[x]).length c));have hG:Grw M N w (Or1 M g) (Or1 N g) (w1.setCell (gX kb 0) (.slice (gY g 0) (kt++[x]).length c)):=
  ⟨(m.imp λk _ q=>(h.tat k q).1).trans (o.imp λk _ q=>by rw[q];exact h.kb_),λk q=>.inl q,λk q hk=>q.elim id λe=>by
   rcases hg with p|p
   .rw[e];exact h.sub g (h.tat g p).1
   .omega,λk q=>.inl q,λk q hk=>q.elim id λe=>by
   rcases hg with p|p
   .rw[e];exact(h.tat g p).1
   .omega⟩
 refine⟨hG,(m.box h.bx λq=>(h.tat kb q).2 rfl).set (j:=0) _ rfl,Bn ho λk hk _=>Below.heap_setCell _ _ _ _ λe=>?_,Bn h.lrow λk hk I=>(o.block k (AV I m.size) λe=>(h.lat k hk).2 e).trans (m.block k I λq=>h.ne k q hk),λk hk=>?_,λk hk=>⟨.inl (h.lat k hk).1,(h.lat k hk).2⟩,λk h1 h2=>?_,
  λy hy=>?_,λy hy=>⟨(h.lin y hy).1.grw hG h.sub,(h.lin y hy).2⟩,.inl h.kb_,λk q=>q.imp (h.sub k) id,?_⟩
 .injection hk with hk;exact G (hk.trans e)
 .injection hk with hk;have hk:g=k:=hk;subst hk;exact⟨.inr rfl,G⟩
 .injection h1 with h1;have h1:g=k:=h1;subst h1;rcases hg with q|q
  .exact h.ne g q h2
  have:=hl g (h.sub g (h.lat g h2).1);omega
 .rcases List.mem_append.1 hy with q|q
  .exact⟨(h.tin y q).1.grw hG h.sub,(h.tin y q).2⟩
  rw[BS.1 q];exact⟨hx.grw hG h.sub,hok⟩
 have:=h.kk;rw[AR,Ea];omega
theorem KnR.list {w w1 M N kb K tc lc g c kt kl tA lA}(h:KnR w M N kb K kt kl tA tc lA lc)(hl:∀k,M k->k<w.heap.size)(x)(hx:EnQ w (λk=>¬M k) x.A x.c x.l)(hok:BR (x.l.map El.p)=0)(ho:w1.ownsRow 0 46 1 (.slice (gY g 0) (kl++[x]).length c) (kl++[x]).length ((kl++[x]).flatMap llV))(m:dI (λk=>(Value.slice lA kl.length lc).ownBlock=some k) w w1)(hg:(Value.slice lA kl.length lc).ownBlock=some g\/w.heap.size<=g):
 Grw M N w (Or1 M g) (Or1 N g) (w1.setCell (gX kb 1) (.slice (gY g 0) (kl++[x]).length c))/\KnR (w1.setCell (gX kb 1) (.slice (gY g 0) (kl++[x]).length c)) (Or1 M g) (Or1 N g) kb (K+1) kt (kl++[x]) tA tc (gY g 0) c:=by
 have:=hl kb (h.sub kb h.kb_);have G:g≠kb:=by rcases hg with q|q;exact(h.lat g q).2;omega
 have o:=Ba ((Oth.refl kb w1).set 1 (.slice (gY g 0) (kl++[x]).length c));have hG:Grw M N w (Or1 M g) (Or1 N g) (w1.setCell (gX kb 1) (.slice (gY g 0) (kl++[x]).length c)):=
  ⟨(m.imp λk _ q=>(h.lat k q).1).trans (o.imp λk _ q=>by rw[q];exact h.kb_),λk q=>.inl q,λk q hk=>q.elim id λe=>by
   rcases hg with p|p
   .rw[e];exact h.sub g (h.lat g p).1
   .omega,λk q=>.inl q,λk q hk=>q.elim id λe=>by
   rcases hg with p|p
   .rw[e];exact(h.lat g p).1
   .omega⟩
 refine⟨hG,(m.box h.bx λq=>(h.lat kb q).2 rfl).set (j:=1) _ rfl,Bn h.trow λk hk I=>(o.block k (AV I m.size) λe=>(h.tat k hk).2 e).trans (m.block k I λq=>h.ne k hk q),Bn ho λk hk _=>Below.heap_setCell _ _ _ _ λe=>?_,λk hk=>⟨.inl (h.tat k hk).1,(h.tat k hk).2⟩,λk hk=>?_,λk h1 h2=>?_,
  λy hy=>⟨(h.tin y hy).1.grw hG h.sub,(h.tin y hy).2⟩,λy hy=>?_,.inl h.kb_,λk q=>q.imp (h.sub k) id,?_⟩
 .injection hk with hk;exact G (hk.trans e)
 .injection hk with hk;have hk:g=k:=hk;subst hk;exact⟨.inr rfl,G⟩
 .injection h2 with h2;have h2:g=k:=h2;subst h2;rcases hg with q|q
  .exact h.ne g h1 q
  have:=hl g (h.sub g (h.tat g h1).1);omega
 .rcases List.mem_append.1 hy with q|q
  .exact⟨(h.lin y q).1.grw hG h.sub,(h.lin y q).2⟩
  rw[BS.1 q];exact⟨hx.grw hG h.sub,hok⟩
 have:=h.kk;rw[AR,Ea];omega
structure Rs where
 q:Int
 ts:List Tg
 cs:ByteArray
 kt:List Kt
 kl:List Ll
structure RefQ (w:World) (M S D R N:Nat->Prop) (rb kb K:Nat) (s:Rs) (A:Option Addr) (c:Nat) (tA:Option Addr) (tc:Nat) (lA:Option Addr) (lc:Nat):Prop where
 st:RwQ w M R rb K s.q A c s.ts s.cs
 kn:KnR w M N kb K s.kt s.kl tA tc lA lc
 rn:∀k,R k->¬N k
 rs:∀k,R k->S k
 ns:∀k,N k->S k
 sm:∀k,S k->M k
 sd:∀k,S k->¬D k
 dm:∀k,D k->M k
def Eu (w:World) (M S D:Nat->Prop) (rb kb K:Nat) (s:Rs):Prop:= ∃R N A c tA tc lA lc,RefQ w M S D R N rb kb K s A c tA tc lA lc
def Sd (S:Nat->Prop) (db k:Nat):Prop:=S k\/k=db
def SoR (S R:Nat->Prop) (k:Nat):Prop:=S k\/R k
section
variable {w w':World} {M S D R N M2 R2 N2:Nat->Prop} {rb kb K K2 c tc lc c2 tc2 lc2:Nat} {s:Rs} {A tA lA A2 tA2 lA2:Option Addr}
theorem RefQ.mst {U}(h:RefQ w M S D R N rb kb K s A c tA tc lA lc)(m:dI U w w')(hU:∀k,U k->M k/\¬S k):RefQ w' M S D R N rb kb K s A c tA tc lA lc:=
 ⟨h.st.mst m λk q=>⟨(hU k q).1,λr=>(hU k q).2 (h.rs k r)⟩,h.kn.mst m λk q=>⟨(hU k q).1,λr=>(hU k q).2 (h.ns k r)⟩,h.rn,h.rs,h.ns,h.sm,h.sd,h.dm⟩
theorem RefQ.low (h:RefQ w M S D R N rb kb K s A c tA tc lA lc)(hb:Below w.heap.size w w'):RefQ w' M S D R N rb kb K s A c tA tc lA lc:=h.mst (U:=λ_=>False) (.of hb) λ_ q=>q.elim
theorem RefQ.lt (h:RefQ w M S D R N rb kb K s A c tA tc lA lc):∀k,M k->k<w.heap.size:=h.st.lt
theorem KnR.le {kt kl}(h:KnR w M N kb K kt kl tA tc lA lc)(hk:K<=K2):KnR w M N kb K2 kt kl tA tc lA lc:=⟨h.bx,h.trow,h.lrow,h.tat,h.lat,h.ne,h.tin,h.lin,h.kb_,h.sub,AS h.kk.1 hk,AS h.kk.2 hk⟩
theorem RefQ.le (h:RefQ w M S D R N rb kb K s A c tA tc lA lc)(hk:K<=K2):RefQ w M S D R N rb kb K2 s A c tA tc lA lc:=⟨h.st.kle hk,h.kn.le hk,h.rn,h.rs,h.ns,h.sm,h.sd,h.dm⟩
theorem RefQ.store {q2 ts2 cs2}(h:RefQ w M S D R N rb kb K s A c tA tc lA lc)(g:Grw M R w M2 R2 w')(h2:RwQ w' M2 R2 rb K2 q2 A2 c2 ts2 cs2)(hk:K<=K2):
 Grw M S w M2 (SoR S R2) w'/\RefQ w' M2 (SoR S R2) D R2 N rb kb K2 ⟨q2,ts2,cs2,s.kt,s.kl⟩ A2 c2 tA tc lA lc:=by
 have hl:∀k,N k->k<w.heap.size:=λk q=>h.lt k (h.kn.sub k q);have hR:∀k,SoR S R2 k->k<w.heap.size->S k:=λk q hk=>q.elim id λr=>h.rs k (g.rn k r hk);refine⟨g.imp h.rs (λk q=>.inl q) hR,h2,?_,λk r n=>h.rn k (g.rn k r (hl k n)) n,λk r=>.inr r,λk r=>.inl (h.ns k r),λk r=>r.elim (λq=>g.mm k (h.sm k q)) (h2.sub k),λk q d=>h.sd k (hR k q (h.lt k (h.dm k d))) d,λk d=>g.mm k (h.dm k d)⟩;have k1:=(h.kn.more (M2:=λk=>M k\/(M2 k/\w.heap.size<=k)) (λk q=>.inl q) (λk q hk=>q.elim id λr=>gd)).mst g.m λk q=>⟨.inl (h.st.sub k q),λn=>h.rn k q n⟩;refine⟨k1.bx,k1.trow,k1.lrow,k1.tat,k1.lat,k1.ne,λx hx=>⟨(h.kn.tin x hx).1.grw g h.st.sub,(h.kn.tin x hx).2⟩,λx hx=>⟨(h.kn.lin x hx).1.grw g h.st.sub,(h.kn.lin x hx).2⟩,h.kn.kb_,λk n=>g.mm k (h.kn.sub k n),AS h.kn.kk.1 hk,AS h.kn.kk.2 hk⟩
theorem RefQ.know {kt2 kl2}(h:RefQ w M S D R N rb kb K s A c tA tc lA lc)(g:Grw M N w M2 N2 w')(h2:KnR w' M2 N2 kb K2 kt2 kl2 tA2 tc2 lA2 lc2)(hM:∀k,M2 k->k<w'.heap.size)(hk:K<=K2):
 Grw M S w M2 (SoR S N2) w'/\RefQ w' M2 (SoR S N2) D R N2 rb kb K2 ⟨s.q,s.ts,s.cs,kt2,kl2⟩ A c tA2 tc2 lA2 lc2:=by
 have hl:∀k,R k->k<w.heap.size:=λk q=>h.lt k (h.st.sub k q);have hR:∀k,SoR S N2 k->k<w.heap.size->S k:=λk q hk=>q.elim id λr=>h.ns k (g.rn k r hk);refine⟨g.imp h.ns (λk q=>.inl q) hR,?_,h2,λk r n=>h.rn k r (g.rn k n (hl k r)),λk r=>.inl (h.rs k r),λk r=>.inr r,λk r=>r.elim (λq=>g.mm k (h.sm k q)) (h2.sub k),λk q d=>h.sd k (hR k q (h.lt k (h.dm k d))) d,λk d=>g.mm k (h.dm k d)⟩;have k1:=h.st.mst g.m λk q=>⟨h.kn.sub k q,λr=>h.rn k r q⟩;exact⟨k1.bx,k1.row,k1.at_,λx hx=>(h.st.ins x hx).grw g h.kn.sub,k1.q0,k1.rb_,λk r=>g.mm k (h.st.sub k r),hM,AS k1.kk hk,k1.nms⟩
end
structure CdR (w:World) (M D:Nat->Prop) (db rb:Nat) (x:Kt) (nm:ByteArray):Prop where
 bx:dH w db (.pointer (some ⟨rb,0,none⟩)::(ktV x++[.string nm]))
 t:KtQ w (λk=>¬M k) x
 ok:x.ok
 d:D db
section
variable {w w':World} {M D S M2 S2:Nat->Prop} {db rb:Nat} {x:Kt} {nm:ByteArray}
theorem CdR.grw (h:CdR w M D db rb x nm)(g:Grw M S w M2 S2 w')(hS:∀k,S k->M k/\k≠db):CdR w' M2 D db rb x nm:=
 ⟨g.m.box h.bx λq=>(hS db q).2 rfl,h.t.grw g λk q=>(hS k q).1,h.ok,h.d⟩
theorem CdR.low (h:CdR w M D db rb x nm)(hb:Below w.heap.size w w'):CdR w' M D db rb x nm:=⟨h.bx.keep hb h.bx.z,dJ.low h.t hb,h.ok,h.d⟩
end
theorem Kt.ok.bd {x:Kt}(h:x.ok):Tb.bd x.ss x.ns:=Tb.ok.bd (t:=⟨x.ss.map dK,x.ns.map dL,x.cur⟩) h rfl rfl
theorem eM {l}(h:BJ l=true):∀m∈l,m.size<=24:=by
 intro m hm;obtain⟨i,hi,rfl⟩:=EZ.1 hm;unfold BJ at h;simp only[BX,BI,Da,List.mem_range]at h;have hp:=(h.2 i hi).1;have e:l.getD i default=l[i]:=by simp[List.getD,hi]
 rw[e]at hp;by_cases hs:l[i].size<=24
 .exact hs
 rw[Ga gd]at hp;cases hp
theorem Kt.ok.nm {x:Kt}(h:x.ok):∀s∈x.ns,∀m∈s.p.ms,m.size<=9223372036854775807:=λs hs m hm=>
 AS (eM ((Gh h).2.2 (dL s) (CG.2 ⟨s,hs,rfl⟩)) m hm) gm
def I6 (w:World) (P:Nat->Prop) (G:Kt->Prop) (e:Ending) (w':World):Prop:= ∃(y:Kt) (k:Int),e = .returned (.tuple #[.agg (dP y.sA y.ss.length y.sc y.nA y.ns.length y.nc y.cur.toNat),io k])/\Below w.heap.size w w'/\KtQ w' (λk=>P k\/w.heap.size<=k) y/\(k=0->G y)
def Kt.nmb (x:Kt):Prop:= ∀s∈x.ns,∀m∈s.p.ms,m.size<=9223372036854775807
theorem Gs {w w' P G k}(hb:Below w.heap.size w w')(h0:k≠0):I6 w P G (.returned (.tuple #[.agg Aa,io k])) w':=
 ⟨default,k,rfl,hb,dJ.nil _ _,λh=>absurd h h0⟩
theorem dM.lowB {w0 w w':World}{P:Nat->Prop}{sz n c A xs}(h:dM w (λk=>P k/\k<w0.heap.size) sz A n c xs)(hb:Below w0.heap.size w w'):dM w' (λk=>P k/\k<w0.heap.size) sz A n c xs:=h.keep hb.size λ_ hp _=>hb.cell hp.2
def MgQ (w:World) (P:Nat->Prop) (M:List En) (e:Ending) (w':World):Prop:=
 Below w.heap.size w w'/\∃oA oc,∃out:List El,e = .returned (.slice oA out.length oc)/\out.map El.p=M/\EnQ w' (λk=>P k\/w.heap.size<=k) oA oc out
theorem eQ (w A c l)(h:Rd w w.heap.size 6 A l.length c (Ax l))(nm):Calls prog 176 #[.slice A l.length c,.string nm] w λe w'=>(∃b,e = .returned (.bool b))/\w=w':=by
 have:l.length<=9223372036854775807:=by have:=h.le;have h2:=h.cap;unfold maxLen at h2;omega
 go_enter func176,ntmps176;go_wp2_with fail
 go_loopw [5] (λiv wr=>∃k:Nat,iv = io k/\k<=l.length/\w=wr) (λiv _=>l.length-(intOf iv).toNat);case atStart=>exact⟨0,rfl,AU _,rfl⟩
 case round=>
  obtain⟨k,rfl,hk,rfl⟩:=hrel;by_cases G:k<l.length
  .obtain⟨b,off,rfl,hb,hc⟩:=h.elA G;obtain⟨x0,_⟩:=hc _ rfl;generalize l.getD k default=x at *;obtain⟨eb,O⟩:=ia (x.p.name.toList==nm.toList);clear hc;cases eb with
   | true=>
     (go_wp2_with fail);go_ret;exact⟨⟨_,rfl⟩,rfl⟩
   | false=>
     (go_wp2_with fail);go_roundw;case rel=>exact⟨k+1,by go_num,G,trivial⟩
     case measure=>simp[intOf];omega
  go_wp2_with fail
  go_ret;exact⟨⟨_,rfl⟩,rfl⟩
theorem S6:∀(l:List En) (ms:List ByteArray),DW ms l=true->∀x∈l,CP x=true
 | [],_,_,x,hx=>by cases hx
 | a::l,ms,h,x,hx=>by
   simp only[DW,BX]at h;rcases List.mem_cons.1 hx with e|e
   .rw[e];exact h.1
   exact S6 l _ h.2.2 x e
theorem MT {l}(h:BR l=0):l.length<=64/\∀x∈l,x.name.size<=9223372036854775807:=by
 by_cases h1:64<l.length
 .rw[LK h1]at h;cases h
 cases h2:DW [] l with
 | false=>rw[IS h1 h2]at h;cases h
 | true=>
   refine⟨gd,λx hx=>?_⟩;have hp:=(Gj (S6 l [] h2 x hx)).1;by_cases hs:x.name.size<=24
   .omega
   rw[Ga gd]at hp;cases hp
theorem SB:∀(l acc:List En) (x:En),x∈l.foldl Ck acc->x∈acc\/x∈l
 | [],_,_,h=>.inl h
 | a::l,acc,x,h=>by
   rcases SB l (Ck acc a) x h with h|h
   .unfold Ck at h;split at h
    .exact .inl h
    rcases List.mem_append.1 h with h|h
    .exact .inl h
    rw[BS.1 h];exact .inr (List.mem_cons_self ..)
   exact .inr (List.mem_cons_of_mem _ h)
def EnO (w:World) (P:Nat->Prop) (e:Ending) (w':World):Prop:= ∃(A:Option Addr) (c:Nat) (out:List El) (k:Int),e = .returned (.tuple #[.slice A out.length c,io k])/\Below w.heap.size w w'/\EnQ w' (λk=>P k\/w.heap.size<=k) A c out/\out.length<=576/\∀x∈out,x.p.name.size<=9223372036854775807
theorem SC (w P):EnQ w P none 0 []:=⟨.nil _ _ _,gj⟩
theorem SD {α:Type}{k}:∀(l:List (List α)),(∀x∈l,x.length<=k)->l.flatten.length<=k * l.length
 | [],_=>gj
 | a::l,h=>by
   have:=h a (List.mem_cons_self ..);have:=SD l λx hx=>h x (List.mem_cons_of_mem _ hx);rw[List.flatten_cons,AR,Bg,Nat.mul_add];omega
theorem CdR.put {w M D db rb v1 v2 v3 v4}(hx:dH w db [iq rb 0,v1,v2,v3,v4])(hD:D db)(hM:M db){x}(ht:KtQ w (λk=>¬M k) x)(hok:x.ok)(nm):
 CdR ((((w.setCell (gX db 1) (.slice x.sA x.ss.length x.sc)).setCell (gX db 2) (.slice x.nA x.ns.length x.nc)).setCell (gX db 3) (il x.cur.toNat)).setCell (gX db 4) (.string nm)) M D db rb x nm:=
 ⟨(((hx.set (j:=1) _ rfl).set (j:=2) _ rfl).set (j:=3) _ rfl).set (j:=4) _ rfl,dJ.mst ht (Ba (Gp w db _ _ _ _)) λk hk e=>hk (by rw[e];exact hM),hok,hD⟩
def Im (s:Rs) (k:Int):Prop:= ∀y t,s.ts=[y]->y.nm=s.cs->s.kt=[t]->wrS (t.ss.map dK) (t.ns.map dL)=y.bs->k=0
def RfO (M D:Nat->Prop) (w:World) (db rb:Nat) (G:Int->Prop) (e:Ending) (w':World):Prop:= ∃k:Int,e = .returned (io k)/\dI (λk=>k=db) w w'/\G k/\((k=0/\∃x nm,CdR w' M D db rb x nm)\/(k≠0/\Below w.heap.size w w'))
theorem Rd.ktA {w B n c A}{l:List Kt}(h:Rd w B 3 A n c (l.flatMap ktV)){i}(hi:i<l.length):∃b off,A=some ⟨b,off,none⟩/\b<B/\∀x,l.getD i default=x->w.cell? (gX b (off+i * 3))=some (.slice x.sA x.ss.length x.sc)/\w.cell? (gX b (off+i * 3+1))=some (.slice x.nA x.ns.length x.nc)/\w.cell? (gX b (off+i * 3+2))=some (il x.cur.toNat):=by
 obtain⟨b,off,e,hb,hc⟩:=Rd.el ktV 3 eL h hi gd;refine⟨b,off,e,hb,λx hx=>?_⟩;subst hx;exact⟨hc 0 _ rfl,hc 1 _ rfl,hc 2 _ rfl⟩
def PbO (M S D:Nat->Prop) (w:World) (db rb kb K:Nat) (w':World):Prop:= ∃M' S' s' x' nm',Grw M (Sd S db) w M' (Sd S' db) w'/\Eu w' M' S' D rb kb K s'/\CdR w' M' D db rb x' nm'
def PbE (M S D:Nat->Prop) (w:World) (db rb kb K:Nat) (e:Ending) (w':World):Prop:= ∃k:Int,e = .returned (io k)/\PbO M S D w db rb kb K w'
theorem Grw.sd {M S M' S' w w'}(g:Grw M S w M' S' w')(db):Grw M (Sd S db) w M' (Sd S' db) w':=
 g.imp (λ_ q=>.inl q) (λk q=>q.imp (g.rr k) id) λk q hk=>q.imp (λr=>g.rn k r hk) id
theorem CdR.step {w w' M D S M2 S2 db rb x nm}(h:CdR w M D db rb x nm)(g:Grw M S w M2 S2 w')(hS:∀k,S k->M k)(hd:¬S db):CdR w' M2 D db rb x nm:=h.grw g λk q=>⟨hS k q,λe=>hd (by rw[<-e];exact q)⟩
def F4 (w:World) (e:Ending) (w':World):Prop:= ∃(v:Sl) (er:Nat),e = .returned (.tuple #[.agg (dR v.id v.A v.fs.length v.c),io er])/\dM w' (λk=>w.heap.size<=k) 4 v.A v.fs.length v.c (AZ v.fs)/\Below w.heap.size w w'
theorem F4.bad {w w' id l name k er}(h1:Bk id l name k=er)(_:C8 id l name k=0)(_:Bu id l name k=[])(hb:Below w.heap.size w w'):
 F4 w (.returned (.tuple #[.agg B3,io er])) w':=h1▸⟨⟨0,[],none,0⟩,_,rfl,.nil _ _ _,hb⟩
section
variable {w w1 w2:World} {M S D M1 S1:Nat->Prop} {db rb kb K K2:Nat}
theorem PbO.next (g:Grw M (Sd S db) w M1 (Sd S1 db) w1)(h:PbO M1 S1 D w1 db rb kb K w2):PbO M S D w db rb kb K w2:=by
 obtain⟨M2,S2,s2,x2,nm2,g2,r,c⟩:=h;exact⟨M2,S2,s2,x2,nm2,g.trans g2,r,c⟩
theorem PbO.low (h:PbO M S D w db rb kb K w1)(hb:Below w1.heap.size w1 w2)(hk:K<=K2):PbO M S D w db rb kb K2 w2:=by
 obtain⟨M2,S2,s2,x2,nm2,g,⟨R,N,A,c,tA,tc,lA,lc,r⟩,d⟩:=h;exact⟨M2,S2,s2,x2,nm2,g.trans (.low hb),⟨R,N,A,c,tA,tc,lA,lc,(r.low hb).le hk⟩,d.low hb⟩
theorem PbO.fresh {s x nm G k}(r:Eu w M S D rb kb K s)(d:CdR w M D db rb x nm)(h:RfO M D w db rb G (.returned (io k)) w1):PbO M S D w db rb kb K w1:=by
 obtain⟨R,N,A,c,tA,tc,lA,lc,r⟩:=r;have I:¬S db:=λq=>r.sd db q d.d;obtain⟨_,_,m,_,⟨_,x2,nm2,d2⟩|⟨_,hb⟩⟩:=h
 .exact⟨M,S,s,x2,nm2,.same (m.imp λk _ q=>.inr q),⟨R,N,A,c,tA,tc,lA,lc,r.mst m λk q=>by rw[q];exact⟨r.dm db d.d,I⟩⟩,d2⟩
 exact⟨M,S,s,x,nm,.low hb,⟨R,N,A,c,tA,tc,lA,lc,r.low hb⟩,d.low hb⟩
theorem Sd.sub (h:∀k,S k->M k)(hd:M db):∀k,Sd S db k->M k:=λk q=>q.elim (h k) λe=>by rw[e];exact hd
end
theorem PbO.start {w M S D db rb kb K s x nm}(r:Eu w M S D rb kb K s)(d:CdR w M D db rb x nm):PbO M S D w db rb kb K w:=⟨M,S,s,x,nm,.refl _ _ _,r,d⟩
theorem KtQ.newer {w w':World}{M:Nat->Prop}{y}(h:KtQ w' (λk=>¬M k\/w.heap.size<=k) y)(hl:∀k,M k->k<w.heap.size):KtQ w' (λk=>¬M k) y:=dJ.imp h λk hk _=>hk.elim id λq m=>by have:=hl k m;omega
theorem KH (w e f):Calls prog 61 #[io e,io f] w λr w'=>(∃b,r = .returned (.bool b))/\w=w':=by
 go_enter func61,ntmps61;obtain⟨b1,a1⟩:∃b,(e==f)=b:=⟨_,rfl⟩;obtain⟨b2,a2⟩:∃b,(f==101)=b:=⟨_,rfl⟩;obtain⟨b3,a3⟩:∃b,decide ((100:Int)<=e)=b:=⟨_,rfl⟩;cases b1<;>cases b2<;>cases b3<;>(go_wp2_with fail;all_goals (go_ret;exact⟨⟨_,rfl⟩,rfl⟩))
theorem SE {α:Type}{enc : α->List Value}{t e sz by_ z ops rest o a Q}(T:STy prog t e sz by_ z)(hgd:o.guard=none)(s x)(ho:o.op = .call { callee:=.builtin .append,args:=#[s,x],argTypes:=#[t,t] }){w oc B oA LA}{out:List α}(hown:w.ownsRow 0 e sz (.slice oA out.length oc) out.length (out.flatMap enc))(y : α)(h1:∀u∈enc y,u.oneCell'=true)(hs:a.eval s = .slice oA out.length oc)(hx:a.eval x = .slice LA 1 1)(hr:Rd w B sz LA 1 1 (enc y))(hb:(out.length+1) * by_<=140737488355328)(h:∀g c w',w'.ownsRow 0 e sz (.slice (gY g 0) (out++[y]).length c) (out++[y]).length ((out++[y]).flatMap enc)->dI (λk=>(Value.slice oA out.length oc).ownBlock=some k) w w'->((Value.slice oA out.length oc).ownBlock=some g\/w.heap.size<=g)->g<w'.heap.size->wpList prog ops Q rest (a.put o.dst (.slice (gY g 0) (out.length+1) c)) w'):
 wpList prog ops Q (o::rest) a w:=by
 refine Aw _ T hgd s x ho 0 _ out.length (out.flatMap enc) hs hown B _ 1 1 (enc y) hx hr h1 hb (AU _) ?_;intro v w' G hg hv;obtain⟨g,cap,rfl,_,_⟩:=G.form gd;refine h g cap w' (by rw[AR,List.flatMap_append];simpa using G) ⟨hg.os,hg.tape,hg.output,hg.size,λk hl hn=>hg.block k hl λe=>hn e.symm⟩ ?_ ((G.lt g rfl).2);rcases hv with e|e
 .exact .inl e.symm
 injection e with e;exact .inr (by rw[show g=w.heap.size from e];exact AD _)
section
variable {w w2 W W':World} {M S D M1 S1 R N:Nat->Prop} {db rb kb K c tc lc b:Nat} {s:Rs} {A tA lA:Option Addr}
theorem Grw.addS {N2}(hb:Below w.heap.size w w2)(h1:∀k,N2 k->w.heap.size<=k):Grw M S w (Mo M N2) S w2:=⟨.of hb,λk q=>.inl q,λk q hk=>q.elim id λe=>by have:=h1 k e;omega,λk q=>q,λk q _=>q⟩
theorem RefQ.mo {U M2 U2}(h:RefQ w M S D R N rb kb K s A c tA tc lA lc)(g:Grw M U w M2 U2 w2)(hU:∀k,U k->M k/\¬S k)(hl:∀k,M2 k->k<w2.heap.size):RefQ w2 M2 S D R N rb kb K s A c tA tc lA lc:=by
 have k1:=h.st.mst g.m λk q=>⟨(hU k q).1,λr=>(hU k q).2 (h.rs k r)⟩;have k2:=h.kn.mst g.m λk q=>⟨(hU k q).1,λr=>(hU k q).2 (h.ns k r)⟩;exact⟨⟨k1.bx,k1.row,k1.at_,λx hx=>(h.st.ins x hx).grw g λk q=>(hU k q).1,k1.q0,k1.rb_,λk r=>g.mm k (k1.sub k r),hl,k1.kk,k1.nms⟩,
  ⟨k2.bx,k2.trow,k2.lrow,k2.tat,k2.lat,k2.ne,λx hx=>⟨(h.kn.tin x hx).1.grw g λk q=>(hU k q).1,(h.kn.tin x hx).2⟩,λx hx=>⟨(h.kn.lin x hx).1.grw g λk q=>(hU k q).1,(h.kn.lin x hx).2⟩,k2.kb_,λk r=>g.mm k (k2.sub k r),k2.kk⟩,h.rn,h.rs,h.ns,λk r=>g.mm k (h.sm k r),h.sd,λk r=>g.mm k (h.dm k r)⟩
theorem RefQ.addS {N2}(h:RefQ w M S D R N rb kb K s A c tA tc lA lc)(hb:Below w.heap.size w w2)(h1:∀k,N2 k->w.heap.size<=k/\k<w2.heap.size):RefQ w2 (Mo M N2) S D R N rb kb K s A c tA tc lA lc:=
 h.mo (Grw.addS (S:=λ_=>False) hb λk q=>(h1 k q).1) (λ_ q=>q.elim) λk q=>q.elim (λr=>AV (h.st.lt k r) hb.size) λe=>(h1 k e).2
theorem CdR.addS {N2 x nm}(h:CdR w M D db rb x nm)(hb:Below w.heap.size w w2)(h1:∀k,N2 k->w.heap.size<=k):CdR w2 (Mo M N2) D db rb x nm:=h.grw (Grw.addS (S:=λ_=>False) hb h1) λ_ q=>q.elim
theorem RefQ.less (h:RefQ w M S D R N rb kb K s A c tA tc lA lc)(h1:∀k,M1 k->M k)(h2:∀k,S k->M1 k)(h3:∀k,D k->M1 k):RefQ w M1 S D R N rb kb K s A c tA tc lA lc:=
 ⟨⟨h.st.bx,h.st.row,h.st.at_,λx hx=>(h.st.ins x hx).imp λk hk _ q=>hk (h1 k q),h.st.q0,h.st.rb_,λk r=>h2 k (h.rs k r),λk q=>h.st.lt k (h1 k q),h.st.kk,h.st.nms⟩,
  ⟨h.kn.bx,h.kn.trow,h.kn.lrow,h.kn.tat,h.kn.lat,h.kn.ne,λx hx=>⟨dJ.imp (h.kn.tin x hx).1 λk hk _ q=>hk (h1 k q),(h.kn.tin x hx).2⟩,λx hx=>⟨(h.kn.lin x hx).1.imp λk hk _ q=>hk (h1 k q),(h.kn.lin x hx).2⟩,h.kn.kb_,λk r=>h2 k (h.ns k r),h.kn.kk⟩,h.rn,h.rs,h.ns,h2,h.sd,h3⟩
theorem CdR.less {x nm}(h:CdR w M D db rb x nm)(h1:∀k,M1 k->M k):CdR w M1 D db rb x nm:=⟨h.bx,dJ.imp h.t λk hk _ q=>hk (h1 k q),h.ok,h.d⟩
theorem Grw.cut {N2}(g:Grw M S w M1 S1 w2)(m:dI N2 w2 W)(hN:∀k,N2 k->w.heap.size<=k)(hn:∀k,M k->¬N2 k){M4}(h4:∀k,M4 k↔M1 k/\¬N2 k):Grw M S w M4 S1 W:=
 ⟨((g.m.imp (N:=λk=>S k\/N2 k) λk _ q=>.inl q).trans (m.imp λk _ q=>.inr q)).imp λk hk q=>q.elim id λe=>by have:=hN k e;omega,λk q=>(h4 k).2 ⟨g.mm k q,hn k q⟩,λk q hk=>g.mn k ((h4 k).1 q).1 hk,g.rr,g.rn⟩
theorem DrQ.grw {d fA aA dA fc ac dc al}(h:DrQ w (λk=>¬M k) d fA fc aA ac al dA dc)(g:Grw M S w M1 S1 w2)(hS:∀k,S k->M k):DrQ w2 (λk=>¬M1 k) d fA fc aA ac al dA dc:=⟨h.f.grw g hS,h.a.grw g hS,h.e,h.dr.grw g hS,h.an,h.dn⟩
theorem PbO.box {cs}(h:PbO M S D w db rb kb K W)(hb:dH w b cs)(hn:¬Sd S db b):dH W b cs:=by
 obtain⟨_,_,_,_,_,g,_⟩:=h;exact g.m.box hb hn
def PbR (M S D:Nat->Prop) (w:World) (db rb kb K:Nat) (A2:Option Addr) (n c2:Nat) (xs:List Value) (w':World):Prop:= ∃M' S' s' x' nm',Grw M (Sd S db) w M' (Sd S' db) w'/\Eu w' M' S' D rb kb K s'/\CdR w' M' D db rb x' nm'/\dM w' (λk=>¬M' k) 1 A2 n c2 xs
theorem PbR.fin {n c2 A2 xs}(hb:Below w.heap.size w w2)(h1:w.heap.size<=b)(h2:b<w2.heap.size)(hS:∀k,Sd S db k->k<w.heap.size)(h:PbR (Mo M λk=>k=b) S D w2 db rb kb K A2 n c2 xs W)(o:Oth b W W'):PbR M S D w db rb kb K A2 n c2 xs W':=by
 obtain⟨M2,S2,s2,x2,nm2,g,⟨R,N,A,c,tA,tc,lA,lc,r⟩,d,q⟩:=h;have hM:=g.mm b (.inr rfl);have hN:¬Sd S2 db b:=λq=>by have:=hS b (g.rn b q h2);omega
 have m:=Ba o;have:=hb.size;have m0:dI (λk=>Sd S db k\/k=b) w W':=((dI.of hb).trans (g.m.imp λk _ q=>.inl q)).trans (m.imp λk _ q=>.inr q);exact⟨M2,S2,s2,x2,nm2,⟨m0.imp λk hk q=>q.elim id λe=>gd,λk q=>g.mm k (.inl q),λk q hk=>(g.mn k q gd).elim id λe=>gd,g.rr,λk q hk=>g.rn k q gd⟩,⟨R,N,A,c,tA,tc,lA,lc,r.mst m λk q=>by rw[q];exact⟨hM,λe=>hN (.inl e)⟩⟩,d.grw (.same m) λk q=>by rw[q];exact⟨hM,λe=>hN (.inr e)⟩,m.rdq q λk hk e=>hk (by rw[e];exact hM)⟩
theorem PbO.row {n c2 A2 xs}(h:PbO M S D w db rb kb K W)(hr:dM w (λk=>¬M k) 1 A2 n c2 xs)(hS:∀k,Sd S db k->M k):PbR M S D w db rb kb K A2 n c2 xs W:=by
 obtain⟨M2,S2,s2,x2,nm2,g,r,d⟩:=h;exact⟨M2,S2,s2,x2,nm2,g,r,d,hr.grw g hS⟩
theorem PbR.next {n c2 A2 xs}(g:Grw M (Sd S db) w M1 (Sd S1 db) w2)(h:PbR M1 S1 D w2 db rb kb K A2 n c2 xs W):PbR M S D w db rb kb K A2 n c2 xs W:=by
 obtain⟨M2,S2,s2,x2,nm2,g2,r,d,q⟩:=h;exact⟨M2,S2,s2,x2,nm2,g.trans g2,r,d,q⟩
theorem PbR.le {n c2 K2 A2 xs}(h:PbR M S D w db rb kb K A2 n c2 xs W)(hk:K<=K2):PbR M S D w db rb kb K2 A2 n c2 xs W:=by
 obtain⟨M2,S2,s2,x2,nm2,g2,⟨R,N,A,c,tA,tc,lA,lc,r⟩,d,q⟩:=h;exact⟨M2,S2,s2,x2,nm2,g2,⟨R,N,A,c,tA,tc,lA,lc,r.le hk⟩,d,q⟩
theorem PbO.nil (h:PbO M S D w db rb kb K W):PbR M S D w db rb kb K none 0 0 [] W:=by
 obtain⟨M2,S2,s2,x2,nm2,g,r,d⟩:=h;exact⟨M2,S2,s2,x2,nm2,g,r,d,.nil _ _ _⟩
end
theorem Env.grw {w w' M R M' R' sb mb K s}(h:Env M w sb mb K s)(g:Grw M R w M' R' w')(hR:∀k,R k->M k/\k≠sb/\k≠mb)(hl:∀k,M' k->k<w'.heap.size):Env M' w' sb mb K s:=by
 obtain⟨N,hN,G⟩:=h.st;have hS:=G.imp (Q:=λk=>¬M' k) (λk hk hl q=>hk (g.mn k q hl)) (λq=>q (g.mm _ h.m1)) (λq=>q (g.mm _ h.m2));obtain⟨D,hD⟩:=hS.mp;exact⟨⟨N,hN,⟨g.m.box hS.bx λq=>(hR sb q).2.1 rfl,⟨D,hD.move g.m.size (g.m.block mb hD.lt λq=>(hR mb q).2.2 rfl) (λp hp hl=>g.m.cell hl λq=>hp (g.mm _ (hR _ q).1))⟩,hS.nP,hS.ne,hS.ok⟩⟩,g.mm _ h.m1,g.mm _ h.m2,hl,λk q=>by
  by_cases hk:k<w.heap.size
  .exact h.g9 k (g.mn k q hk)
  .have:=h.tb.z;omega,h.tb.mst g.m λk q=>h.g9 k (hR k q).1,h.fit⟩
theorem An.grw {w w' M R M' R' cb sb c}(h:An w (λk=>¬M k) cb sb c)(g:Grw M R w M' R' w')(hR:∀k,R k->M k/\k≠cb):An w' (λk=>¬M' k) cb sb c:=
 ((h.imp (Q:=λk=>¬M' k/\¬M k) λk hk hl=>⟨λq=>hk (g.mn k q hl),hk⟩).mst g.m (λk hk q=>hk.2 (hR k q).1) λq=>(hR cb q).2 rfl).imp λk hk _=>hk.1
structure Bm (w:World) (X M S D:Nat->Prop) (sb mb rb kb c c2 d d2 K:Nat) (s:So) (ca cb:Ct) (rs:Rs) (x:Kt) (nm:ByteArray) (x2:Kt) (nm2:ByteArray):Prop where
 hX:∀k,X k->k<w.heap.size/\¬M k
 E:Env M w sb mb K s
 C:An w (λk=>¬M k) c sb ca
 o1:ca.t.ok
 C2:An w (λk=>¬M k) c2 sb cb
 o2:cb.t.ok
 R:Eu w M S D rb kb K rs
 Q:CdR w M D d rb x nm
 Q2:CdR w M D d2 rb x2 nm2
 mc:M c/\M c2
 ne:c≠sb/\c≠mb/\c2≠sb/\c2≠mb/\c≠c2/\d≠d2
 dis:∀k,S k\/D k->k≠sb/\k≠mb/\k≠c/\k≠c2
 snd:Sound s
 ms:MsF s ca.t.ns/\MsF s cb.t.ns
def Bc (w:World) (X:Nat->Prop) (sb mb rb kb c c2 d d2 K:Nat):Prop:= ∃M S D s ca cb rs x nm x2 nm2,Bm w X M S D sb mb rb kb c c2 d d2 K s ca cb rs x nm x2 nm2
def Bo (w:World) (X:Nat->Prop) (sb mb rb kb c c2 d d2 K:Nat) (w':World):Prop:=Bc w' X sb mb rb kb c c2 d d2 K/\dI (λk=>¬X k) w w'
section
variable {w w':World} {X Y M S D:Nat->Prop} {sb mb rb kb c c2 d d2 K K2:Nat} {s s':So} {ca ca' cb:Ct} {rs:Rs} {x x2:Kt} {nm nm2:ByteArray}
theorem Bm.prg (h:Bm w X M S D sb mb rb kb c c2 d d2 K s ca cb rs x nm x2 nm2)(hE:Env M w' sb mb K2 s')(hC:An w' (λk=>¬M k) c sb ca')(ok:ca'.t.ok)(m:dI (Mc sb mb c) w w')(hS:Sound s')(g:Gr s s')(hm:MsF s' ca'.t.ns)(hK:K<=K2):
 Bm w' X M S D sb mb rb kb c c2 d d2 K2 s' ca' cb rs x nm x2 nm2:=by
 have hU:∀k,Mc sb mb c k->M k:=λk q=>by
  rcases q with q|q|q
  .exact q▸h.E.m1
  .exact q▸h.E.m2
  exact q▸h.mc.1
 have hN:∀k,Mc sb mb c k->¬(S k\/D k):=λk q r=>by
  obtain⟨a,b,e,_⟩:=h.dis k r;rcases q with q|q|q
  .exact a q
  .exact b q
  exact e q
 obtain⟨R,N,A,k,tA,tk,lA,lk,r⟩:=h.R;exact⟨λk q=>⟨AV (h.hX k q).1 m.size,(h.hX k q).2⟩,hE,hC,ok,h.C2.mst m (λk hk q=>hk (hU k q)) (λq=>by
  obtain⟨_,_,n3,n4,n5,_⟩:=h.ne;rcases q with q|q|q
  .exact n3 q
  .exact n4 q
  .exact n5 q.symm),h.o2,⟨R,N,A,k,tA,tk,lA,lk,(r.mst m λk q=>⟨hU k q,λe=>hN k q (.inl e)⟩).le hK⟩,
  h.Q.grw (.same m) λk q=>⟨hU k q,λe=>hN k q (.inr (by rw[e];exact h.Q.d))⟩,h.Q2.grw (.same m) λk q=>⟨hU k q,λe=>hN k q (.inr (by rw[e];exact h.Q2.d))⟩,h.mc,h.ne,h.dis,hS,hm,h.ms.2.gr g⟩
theorem Bm.kept (h:Bm w X M S D sb mb rb kb c c2 d d2 K s ca cb rs x nm x2 nm2){U}(m:dI U w w')(hU:∀k,U k->M k):dI (λk=>¬X k) w w':=m.imp λk _ q e=>(h.hX k e).2 (hU k q)
theorem Bm.mcs (h:Bm w X M S D sb mb rb kb c c2 d d2 K s ca cb rs x nm x2 nm2):∀k,Mc sb mb c k->M k:=λk q=>by
 rcases q with q|q|q
 .exact q▸h.E.m1
 .exact q▸h.E.m2
 exact q▸h.mc.1
theorem Bm.ref2 {M2 S2 s2 x3 nm3}(h:Bm w X M S D sb mb rb kb c c2 d d2 K s ca cb rs x nm x2 nm2)(g:Grw M (Sd S d) w M2 (Sd S2 d) w')(r2:Eu w' M2 S2 D rb kb K2 s2)(q2:CdR w' M2 D d rb x3 nm3)(hK:K<=K2):Bm w' X M2 S2 D sb mb rb kb c c2 d d2 K2 s ca cb s2 x3 nm3 x2 nm2/\dI (λk=>¬X k) w w':=by
 obtain⟨R,N,A,k,tA,tk,lA,lk,r⟩:=h.R;have hS:∀k,Sd S d k->S k\/D k:=λk q=>q.imp id λe=>by rw[e];exact h.Q.d
 have G:∀k,Sd S d k->M k:=λk q=>(hS k q).elim (r.sm k) (r.dm k);have hl:∀k,M2 k->k<w'.heap.size:=by obtain⟨_,_,_,_,_,_,_,_,r2⟩:=r2;exact r2.lt
 refine⟨⟨λk q=>⟨AV (h.hX k q).1 g.m.size,λe=>(h.hX k q).2 (g.mn k e (h.hX k q).1)⟩,(h.E.grw g (λk q=>⟨G k q,(h.dis k (hS k q)).1,(h.dis k (hS k q)).2.1⟩) hl).more hK,h.C.grw g λk q=>⟨G k q,(h.dis k (hS k q)).2.2.1⟩,h.o1,h.C2.grw g λk q=>⟨G k q,(h.dis k (hS k q)).2.2.2⟩,h.o2,r2,q2,
  h.Q2.grw g λk q=>⟨G k q,λe=>q.elim (λe2=>r.sd k e2 (e▸h.Q2.d)) λe2=>h.ne.2.2.2.2.2 (e2.symm.trans e)⟩,⟨g.mm _ h.mc.1,g.mm _ h.mc.2⟩,h.ne,λk q=>?_,h.snd,h.ms⟩,h.kept g.m G⟩
 by_cases hk:k<w.heap.size
 .exact h.dis k (q.elim (λe=>hS k (g.rn k (.inl e) hk)) .inr)
 have:=h.E.lt sb h.E.m1;have:=h.E.lt mb h.E.m2;have:=h.E.lt c h.mc.1;have:=h.E.lt c2 h.mc.2;omega
theorem Bm.ref (h:Bm w X M S D sb mb rb kb c c2 d d2 K s ca cb rs x nm x2 nm2)(hP:PbO M S D w d rb kb K2 w')(hK:K<=K2):Bo w X sb mb rb kb c c2 d d2 K2 w':=by
 obtain⟨M2,S2,s2,x3,G,g,r2,q2⟩:=hP;obtain⟨b,m⟩:=h.ref2 g r2 q2 hK;exact⟨⟨_,_,_,_,_,_,_,_,_,_,_,b⟩,m⟩
theorem Bm.swap (h:Bm w X M S D sb mb rb kb c c2 d d2 K s ca cb rs x nm x2 nm2):Bm w X M S D sb mb rb kb c2 c d2 d K s cb ca rs x2 nm2 x nm:=by
 obtain⟨n1,n2,n3,n4,n5,n6⟩:=h.ne;exact⟨h.hX,h.E,h.C2,h.o2,h.C,h.o1,h.R,h.Q2,h.Q,⟨h.mc.2,h.mc.1⟩,⟨n3,n4,n1,n2,λe=>n5 e.symm,λe=>n6 e.symm⟩,λk q=>⟨(h.dis k q).1,(h.dis k q).2.1,(h.dis k q).2.2.2,(h.dis k q).2.2.1⟩,h.snd,⟨h.ms.2,h.ms.1⟩⟩
theorem Bc.swap (h:Bc w X sb mb rb kb c c2 d d2 K):Bc w X sb mb rb kb c2 c d2 d K:=by
 obtain⟨M,S,D,s,ca,cb,rs,x,nm,x2,nm2,h⟩:=h;exact⟨M,S,D,s,cb,ca,rs,x2,nm2,x,nm,h.swap⟩
theorem Bm.low (h:Bm w X M S D sb mb rb kb c c2 d d2 K s ca cb rs x nm x2 nm2)(hb:Below w.heap.size w w')(hY:∀k,Y k->X k\/(w.heap.size<=k/\k<w'.heap.size))(hK:K<=K2):Bm w' Y M S D sb mb rb kb c c2 d d2 K2 s ca cb rs x nm x2 nm2:=by
 obtain⟨R,N,A,k,tA,tk,lA,lk,r⟩:=h.R;exact⟨λk q=>(hY k q).elim (λe=>⟨AV (h.hX k e).1 hb.size,(h.hX k e).2⟩) λe=>⟨e.2,λm=>by have:=h.E.lt k m;omega⟩,(h.E.low hb).more hK,h.C.low hb,h.o1,h.C2.low hb,h.o2,⟨R,N,A,k,tA,tk,lA,lk,(r.low hb).le hK⟩,h.Q.low hb,h.Q2.low hb,h.mc,h.ne,h.dis,h.snd,h.ms⟩
theorem Bc.low (h:Bc w X sb mb rb kb c c2 d d2 K)(hb:Below w.heap.size w w')(hY:∀k,Y k->X k\/(w.heap.size<=k/\k<w'.heap.size))(hK:K<=K2):Bc w' Y sb mb rb kb c c2 d d2 K2:=by
 obtain⟨M,S,D,s,ca,cb,rs,x,nm,x2,nm2,h⟩:=h;exact⟨M,S,D,s,ca,cb,rs,x,nm,x2,nm2,h.low hb hY hK⟩
theorem SF {r chg}(h:Bm w X M S D sb mb rb kb c c2 d d2 K s ca cb rs x nm x2 nm2)(hc:∀s t,s.firm->MsF s t.ns->Gr s (chg s t).s/\(chg s t).s.cell=s.cell/\((chg s t).e=0->MsF (chg s t).s (chg s t).t.ns))(hr:BP chg 3 s ca=r)(hE:Env M w' sb mb (K+12) r.s)(hC:An w' (λk=>¬M k) c sb r.c)(ok:r.c.t.ok)(m:dI (Mc sb mb c) w w'):Bo w X sb mb rb kb c c2 d d2 (K+12) w':=by
 have hk:=M7 hc 3 s ca h.snd h.ms.1;rw[hr]at hk;exact⟨⟨M,S,D,_,_,cb,rs,x,nm,x2,nm2,h.prg hE hC ok m hk.ok hk.g hk.ms gd⟩,h.kept m h.mcs⟩
end
def BoE (w:World) (X:Nat->Prop) (sb mb rb kb c c2 d d2 K:Nat) (e:Ending) (w':World):Prop:=(∃k:Int,e = .returned (io k))/\Bo w X sb mb rb kb c c2 d d2 K w'
theorem Kt.ok.cur {x:Kt}(h:x.ok)(h0:0<x.cur.toNat):0<x.ns.length:=by
 unfold Kt.ok B7 at h;simp only[BX,BI]at h;have h2:=h.2.2.2;by_cases hn:x.ns.length=0
 .rw[Ae,hn]at h2;have:x.cur.toNat=0:=h2;omega
 omega
theorem eh (a b:UInt64):∃c:UInt64,max (a.toNat:Int) (b.toNat:Int)=(c.toNat:Int):=by
 by_cases h:a.toNat<=b.toNat
 .exact⟨b,gd⟩
 exact⟨a,gd⟩
theorem ei (l:List El):∀u∈l.flatMap elV,u.oneCell'=true:=λu hu=>by
 obtain⟨x,_,hx⟩:=List.mem_flatMap.1 hu;exact Fb x u hx
def DfO (w:World) (P:Nat->Prop) (e:Ending) (w':World):Prop:= ∃(s:Nl) (A:Option Addr) (c:Nat) (out:List El) (k:Int) (B:Nat),e = .returned (.tuple #[.agg (dO s.p s.A s.c),.slice A out.length c,io k])/\Below w.heap.size w w'/\w.heap.size<=B/\w'.ownsRow B 9 1 (.slice s.A s.p.ms.length s.c) s.p.ms.length (AY s.p.ms)/\s.p.ms.length<=8/\(∀m∈s.p.ms,m.size<=9223372036854775807)/\EnQ w' (λk=>(P k\/w.heap.size<=k)/\k<B) A c out/\∀y∈out,y.p.name.size<=9223372036854775807
theorem SG {w w' P}{s:Nl}{b}(hs:s=⟨s.p,none,0⟩/\s.p.ms=[])(k)(hb:Below w.heap.size w w')(h8:w.heap.size<=b):DfO w P (.returned (.tuple #[.agg (dO s.p s.A s.c),ir,io k])) (set7b w' b (il s.p.id.toNat) (il s.p.par.toNat) (il s.p.seq.toNat) (il s.p.off.toNat) (il s.p.tim.toNat) (im s.p.sch.toNat) (.slice s.A s.p.ms.length s.c)):=by
 obtain⟨h1,h2⟩:=hs;have hA:s.A=none:=by rw[h1]
 have hc:s.c=0:=by rw[h1]
 refine⟨s,none,0,[],k,w.heap.size,rfl,(((((((hb.setCell (p:=gX b 0) h8 _).setCell (p:=gX b 1) h8 _).setCell (p:=gX b 2) h8 _).setCell (p:=gX b 3) h8 _).setCell (p:=gX b 4) h8 _).setCell (p:=gX b 5) h8 _).setCell (p:=gX b 6) h8 _),AD _,?_,by rw[h2];simp,by rw[h2];simp,SC _ _,gj⟩;rw[hA,hc,h2];exact Av _ _ _ _
def CmO (M S D:Nat->Prop) (w:World) (db rb kb K:Nat) (e:Ending) (w':World):Prop:= ∃(v:Nl) (k:Int),e = .returned (.tuple #[.agg (dO v.p v.A v.c),io k])/\PbR M S D w db rb kb K v.A v.p.ms.length v.c (AY v.p.ms) w'/\v.p.ms.length<=9
def Io (s:ByteArray):List Value:=[.string s]
theorem SJ (l):AY l=l.flatMap Io:=by
 unfold AY Io;induction l with
 | nil=>rfl
 | cons x l ih=>simp[ih]
theorem et {w w' sz n c b A xs}(h:Rd w w.heap.size sz A n c xs)(hn:∀b2 o2,A=some ⟨b2,o2,none⟩->0<n->b2≠b)(o:Oth b w w'):Rd w' w'.heap.size sz A n c xs:=
 ((Ba o).rdq (P:=λk=>k≠b) ⟨h,λh0=>by
   obtain⟨b2,o2,e,_⟩:=h.at_ h0;exact⟨b2,o2,e,hn b2 o2 e h0⟩⟩ λk hk e=>hk e).rd
def Fr0 (s:Rs):Prop:=s.ts=[]/\s.cs=⟨#[]⟩/\s.kt=[]/\20000<=s.q
def Fr1 (s:Rs):Prop:=s.cs=⟨#[116,49]⟩/\∃y t,s.ts=[y]/\y.nm=s.cs/\s.kt=[t]/\wrS (t.ss.map dK) (t.ns.map dL)=y.bs
def OpO (M S D:Nat->Prop) (w:World) (rb kb K:Nat) (e:Ending) (w':World):Prop:= ∃db M' S' s' x nm,e = .returned (.tuple #[.pointer (some ⟨db,0,none⟩),io 0])/\w.heap.size<=db/\Grw M S w M' S' w'/\Eu w' M' S' (Or1 D db) rb kb K s'/\CdR w' M' (Or1 D db) db rb x nm/\Fr1 s'
theorem RefQ.addD {w M S D R N rb kb K c tc lc b s A tA lA}(h:RefQ w M S D R N rb kb K s A c tA tc lA lc)(h1:M b)(h2:¬S b):RefQ w M S (Or1 D b) R N rb kb K s A c tA tc lA lc:=
 ⟨h.st,h.kn,h.rn,h.rs,h.ns,h.sm,λk q d=>d.elim (h.sd k q) λe=>h2 (e▸q),λk d=>d.elim (h.dm k) λe=>e▸h1⟩
theorem Gt:B7 [(1,two)] [] 0=true/\check 1 two=0/\(wrS [((1:UInt32),two)] []).length<=20000:=gw
theorem SR (w)(hT:Tabs w)(q)(q0 : -9223372036854775808<=q)(q1:q<=9223372036854775807):Calls prog 9 #[io q] w λe w'=>∃sb mb,e = .returned (iq sb 0)/\w.heap.size<=sb/\w.heap.size<=mb/\Env (Ms sb mb) w' sb mb 0 (So.new q)/\Below w.heap.size w w':=by
 have:=hT.z;refine(Vb (λk=>¬Ms (w.heap.size+1) w.heap.size k) w q q0 q1 (λk hk=>?_)).mono ?_
 .unfold Ms at hk;omega
 rintro e w' ⟨rfl,hS,hb,hz2⟩;refine⟨_,_,rfl,gd,gd,⟨⟨0,AD _,hS⟩,.inl rfl,.inr rfl,λk hk=>?_,λk hk=>?_,hT.low hb,WJ q⟩,hb⟩
 .rcases hk with rfl|rfl<;>omega
 rcases hk with rfl|rfl<;>omega
theorem KK (w):Calls prog 11 #[] w λe w'=>∃A c,e = .returned (.agg #[im 1,.slice A 2 c])/\dM w' (λk=>w.heap.size<=k) 4 A 2 c (AZ two)/\Below w.heap.size w w':=by
 go_enter func11,ntmps11;go_wp2_with fail
 have x1:=Dc w #[im 1,.slice (gY (w.heap.size+1) 0) 2 2] 33;generalize T:w.alloc _=wa at *;have hb:=hI wa (.cells #[im 1,.string ⟨#[105,100]⟩,ip 1,.bool true,im 2,.string ⟨#[110,97,109,101]⟩,ip 3,.bool false] 89);have hl:=Rd.lit wa (n:=2) (sz:=4) 89 #[im 1,.string ⟨#[105,100]⟩,ip 1,.bool true,im 2,.string ⟨#[110,97,109,101]⟩,ip 3,.bool false] rfl gm;have hz:=x1.size;generalize G:wa.alloc _=w2 at *;obtain⟨cs,_,zs,I⟩:=x1.lift hb;(try simp only[Exit.inBlock,Exit.then]);refine AW (TQ (b:=w.heap.size) (x:=im 1) (y:=.slice (gY (w.heap.size+1) 0) 2 2) rfl _ _ rfl (cs 0 _ rfl) (cs 1 _ rfl)) rfl ?_;refine⟨some ⟨w.heap.size+1,0,none⟩,2,rfl,?_,I⟩;rw[<-hz];have O:wa.heap.size+1<=w2.heap.size:=by rw[<-G];simp
 exact⟨hl.more O,λ_=>⟨_,_,rfl,gd⟩⟩
def Dj (o:UInt64):Dr:=⟨false,[],[],[],o,0⟩
theorem fO (m):Cu (Bl m)=Cu (m.map (·.1)):=by
 refine Nat.le_antisymm (R7 λx hx=>?_) (R7 λx hx=>?_)
 .obtain⟨t,ht⟩:=LU hx;exact R6 (CG.2 ⟨(x,t),Ff ht,rfl⟩)
 obtain⟨p,hp,rfl⟩:=CG.1 hx;exact R6 (Vs hp)
def So.stageK (s:So) (c:UInt8) (bs:List UInt8):So×ByteArray×Nat:=
 if Em c=false then (s,no_,1)
 else if s.dead=true then (s,no_,120)
 else if 1073741824<=Cu (s.m.map (·.1)) then (s,no_,6)
 else s.stage2 (F2 c (Cu (s.m.map (·.1))+1)) bs
theorem SS (s:So)(c bs):s.stage c bs=s.stageK c bs:=by
 unfold So.stage So.stageK;rw[fO]
def SU (s:So) (w:Tb) (g:Nat×Sn×List En):Ch:=
 if g.1≠0 then ⟨s,g.1,default,default⟩
 else if BR g.2.2≠0 then ⟨s,BR g.2.2,default,default⟩
 else Ep s w g.2.1 (s.stageK 109 (Bq g.2.2))
def Iq (d:Dr) (s:So) (t:Tb):Ch:=
 if (B1 t d.fs).2≠0 then ⟨s,(B1 t d.fs).2,default,default⟩ else SU s (B1 t d.fs).1 (s.draft t d (B1 t d.fs).1.lastS.1)
theorem MY (d):BB d=Iq d:=by
 funext s t;unfold BB Iq Er SU;simp only[SS]
def I7 (c:Ct) (h:Ch):Tr:=
 if h.e≠0 then ⟨h.s,c,h.e,false,default⟩
 else if B7 h.t.ss h.t.ns h.t.cur.toNat=false then ⟨h.s,c,1,false,default⟩
 else Jm c h (h.s.stageK 116 (wrS h.t.ss h.t.ns))
theorem fP (c h):CE c h=I7 c h:=by
 unfold CE I7;rw[SS]
def Ir (chg:So->Tb->Ch):Nat->So->Ct->Tr
 | 0,s,c=>⟨s,c,123,false,default⟩
 | k+1,s,c=>if (I7 c (chg s c.t)).on=true then Ir chg k (I7 c (chg s c.t)).s (I7 c (chg s c.t)).c else I7 c (chg s c.t)
theorem KL (chg):∀(k:Nat) (s:So) (c:Ct),BP chg k s c=Ir chg k s c
 | 0,_,_=>rfl
 | k+1,s,c=>by
   show(if _ then _ else _)=(if _ then _ else _);simp only[fP,KL chg k]
def alA (q:Int):So×Option Ct×Nat:=(So.new q).openC (1,two)
def alB:So×Option Ct×Nat:=(alA 100000).1.openC (1,two)
def alS:So×ByteArray×Nat:=alB.1.stage 100 [120]
def MZ:Ct:=(alA 100000).2.1.getD noC
def Mb:Ct:=alB.2.1.getD noC
def al1:Tr:=BP (BB (Dj 5)) 3 alS.1 MZ
def al2:Tr:=BP (BB (Dj 5)) 3 al1.s al1.c
def al3:Tr:=BP (BB (Dj 9)) 3 al2.s Mb
def I8 (s:ByteArray) (l:List UInt8):Bool:=decide (s.data.toList=l)
theorem Is {s l}(h:I8 s l=true):s=⟨l.toArray⟩:=by
 unfold I8 at h;rw[decide_eq_true_iff]at h;obtain⟨⟨d⟩⟩:=s;subst h;rfl
theorem SV (q)(hq:q=100000\/q=1000000\/q=4000000):(alA q).2.1.isSome=true/\(alA q).2.2=0/\I8 ((alA q).2.1.getD noC).nm [116,49]=true:=by
 rcases hq with rfl|rfl|rfl<;>decide +kernel
theorem SW:alB.2.1.isSome=true/\alB.2.2=0:=gw
theorem SX:I8 alS.2.1 [100,50]=true/\alS.2.2=0:=gw
def KM:Tr:=Ir (Iq (Dj 5)) 3 alS.1 MZ
def Md:Tr:=Ir (Iq (Dj 5)) 3 KM.s KM.c
def SY:Tr:=Ir (Iq (Dj 9)) 3 Md.s Mb
theorem SZ:al1=KM:=by unfold al1 KM;rw[KL,MY]
theorem Sa:al2=Md:=by unfold al2 Md;rw[KL,MY,SZ]
theorem fQ:al3=SY:=by unfold al3 SY;rw[KL,MY,Sa]
theorem Me:al1.e=0/\al1.n.id.toNat=1/\al1.n.seq.toNat=1:=by rw[SZ];decide +kernel
theorem Sb:al2.e=220/\I8 al2.c.nm [116,52]=true:=by rw[Sa];decide +kernel
theorem Mg:al3.e=0/\al3.n.id.toNat=2/\I8 al3.c.nm [116,56]=true:=by rw[fQ];decide +kernel
theorem Mh {s s2:So}{p c}(h:s.openC p=(s2,some c,0)):c.t.ok:=by
 unfold So.openC at h;split at h
 .cases h
 unfold So.open3 at h;split at h
 .rename_i h1 h2;injection h with _ h;injection h with h _;injection h with h;subst h;unfold So.open2 at h2 ⊢;split at h2
  .cases h2
  rename_i h3;rw[AE h3];split at h2
  .rename_i h4;rw[AJ h4];unfold So.begin at h2 ⊢;split at h2
   .cases h2
   rename_i h5;rw[AE h5];generalize s.stage 116 (wrS [p] [])=st at *;generalize (if st.2.2=0 then st.1.swap no_ st.2.1 else (st.1,st.2.2))=q at *;unfold So.begin2 at h2 ⊢;split at h2
   .rename_i h6;rw[AJ h6];show B7 [p] [] 0=true;simpa using h5
   rename_i h6;exact absurd h2 h6
  rename_i h4;rw[AE h4];show(s.refresh noC).1.t.ok;replace h2:(s.refresh noC).2=0:=h2;unfold So.refresh at h2 ⊢;split at h2
  .cases h2
  rename_i h5;rw[AE h5];split at h2
  .rename_i h6;exact absurd h2 h6
  rename_i h6;rw[AE h6];split at h2
  .rename_i h7;exact absurd h2 h7
  rename_i h7;rw[AE h7];exact Qc (by simpa using h7)
 cases h
theorem Mi {r:So×Option Ct×Nat}(h:r.2.1.isSome=true)(h0:r.2.2=0):r=(r.1,some (r.2.1.getD noC),0):=by
 obtain⟨s,oc,e⟩:=r;cases oc with
 | none=>cases h
 | some c=>
   dsimp only at h0;subst h0;rfl
theorem fR:∃(s1:So) (ca:Ct) (s2:So) (cb:Ct) (s3:So) (r1 r2 r3:Tr),(So.new 100000).openC (1,two)=(s1,some ca,0)/\ca.nm=⟨#[116,49]⟩/\s1.openC (1,two)=(s2,some cb,0)/\s2.stage 100 [120]=(s3,⟨#[100,50]⟩,0) /\
 BP (BB (Dj 5)) 3 s3 ca=r1/\r1.e=0/\r1.n.id.toNat=1/\r1.n.seq.toNat=1/\BP (BB (Dj 5)) 3 r1.s r1.c=r2/\r2.e=220/\r2.c.nm=⟨#[116,52]⟩/\BP (BB (Dj 9)) 3 r2.s cb=r3/\r3.e=0/\r3.n.id.toNat=2/\r3.c.nm=⟨#[116,56]⟩:=by
 obtain⟨a1,a2,a3⟩:=SV 100000 (.inl rfl);have hA:=Mi a1 a2;have hB:=Mi SW.1 SW.2;refine⟨(alA 100000).1,MZ,alB.1,Mb,alS.1,al1,al2,al3,hA,Is a3,hB,?_,rfl,Me.1,Me.2.1,Me.2.2,rfl,Sb.1,Is Sb.2,rfl,Mg.1,Mg.2.1,Is Mg.2.2⟩;show alS=_;have h1:=Is SX.1;have h2:=SX.2;generalize alS=st at *;obtain⟨s,n,e⟩:=st;dsimp only at h1 h2 ⊢;rw[h1,h2]
theorem Mj {M w w' sb mb K r s c e}(h:Jy M w sb mb K r e w')(hr:r=(s,some c,0)):
 ∃cb,e = .returned (.tuple #[iq cb 0,io 0])/\w.heap.size<=cb/\cb<w'.heap.size/\Env (Ma M cb) w' sb mb K s/\An w' (λk=>¬Ma M cb k) cb sb c/\dI (Ms sb mb) w w':=by
 subst hr;exact h
theorem Mk (w P o):DrQ w P (Dj o) none 0 none 0 [] none 0:=⟨.nil _ _ _,⟨.nil _ _ _,λ_ h=>(Bf h).elim⟩,rfl,.nil _ _ _,AU _,AU _⟩
theorem Se {M w w' sb mb cb K rp r e}(h:GN M w sb mb cb K rp e w')(hr:rp=r)(h0:r.e=0):
 ∃A c,e = .returned (.tuple #[.agg (dO r.n A c),io 0])/\Env M w' sb mb K r.s/\An w' (λk=>¬M k) cb sb r.c/\r.c.t.ok/\dI (Mc sb mb cb) w w':=by
 subst hr;obtain⟨v0,v1,v2,v3,v4,v5,v6,rfl,hE,hC,G,hm,_,hg⟩:=h;obtain⟨A,c,he,_⟩:=hg h0;rw[h0,he];exact⟨A,c,rfl,hE,hC,G,hm⟩
theorem Sf {M w w' sb mb cb K er rp r e}(h:GN M w sb mb cb K rp e w')(hr:rp=r)(h0:r.e=er)(hne:er≠0):
 e = .returned (.tuple #[.agg Aj,io er])/\Env M w' sb mb K r.s/\An w' (λk=>¬M k) cb sb r.c/\r.c.t.ok/\dI (Mc sb mb cb) w w':=by
 subst hr h0;obtain⟨v0,v1,v2,v3,v4,v5,v6,rfl,hE,hC,G,hm,hb,_⟩:=h;rw[hb hne];exact⟨rfl,hE,hC,G,hm⟩
theorem An.mc {M:Nat->Prop}{w w' sb mb cb cb2 c}(h:An w (λk=>¬M k) cb2 sb c)(m:dI (Mc sb mb cb) w w')(m1:M sb)(m2:M mb)(m3:M cb)(n1:cb2≠sb)(n2:cb2≠mb)(n3:cb2≠cb):An w' (λk=>¬M k) cb2 sb c:=
 h.mst m (λk hk q=>hk (by rcases q with q|q|q;exact q▸m1;exact q▸m2;exact q▸m3)) (λq=>by rcases q with q|q|q;exact n1 q;exact n2 q;exact n3 q)
theorem fS {P}(w:World)(C m l)(h:C.toList=AO l)(hl:l.length<=maxLen)(hp:P w.heap.size):dM (w.alloc (.cells C 5 m)) P 1 (gY w.heap.size 0) l.length l.length (AO l):=
 ⟨⟨by simp[AO],AD _,hl,λ_=>⟨w.heap.size,0,rfl,gj,λj u hj=>by
  rw[BL,World.cell?_alloc_mark,<-Array.getElem?_toList,h];exact hj⟩⟩,λ_=>⟨_,0,rfl,hp⟩⟩
theorem fU {s s1:So}{c}(hf:s.firm)(hc:s.cell.size=0)(h:s.openC (1,two)=(s1,some c,0)):Sound s1/\c.t=tb1 (1,two)/\c.nm=s1.cell:=by
 unfold So.openC at h;rw[AE (by rw[show check (1,two).1 (1,two).2=0 from Gt.2.1];simp)]at h;unfold So.open2 at h;rw[AE (by rw[hf.calm.dead];simp),AJ hc]at h;unfold So.begin at h;rw[AE (by rw[Gt.1];simp)]at h;obtain⟨a,b,m⟩:=GP hf 116 (wrS [((1:UInt32),two)] []);generalize s.stage 116 (wrS [((1:UInt32),two)] [])=st at *;by_cases e0:st.2.2=0
 .rw[AJ e0]at h;rcases Lx b.firm no_ st.2.1 with ⟨e1,_⟩|e1
  .unfold So.begin2 at h;rw[AE e1]at h;unfold So.open3 at h;rw[AE e1]at h;cases h
  rw[e1]at h;unfold So.begin2 So.open3 at h;rw[AJ rfl,AJ rfl]at h;injection h with h1 h2;injection h2 with h2 _;injection h2 with h2;subst h1 h2;exact⟨⟨(Ly b.firm _).firm,tb1 (1,two),Gt.1,m e0,λn hn=>(Bf hn).elim⟩,rfl,rfl⟩
 rw[AE e0]at h;unfold So.begin2 at h;rw[AE e0]at h;unfold So.open3 at h;rw[AE e0]at h;cases h
theorem fV:∃s1,Sound s1/\(∃c,(So.new 1000000).openC (1,two)=(s1,some c,0)/\c.t.ok/\MsF s1 c.t.ns)/\∃c,s1.openC (1,two)=(s1,some c,0)/\c.t.ok/\MsF s1 c.t.ns:=by
 obtain⟨a1,a2,a3⟩:=SV 1000000 (.inr (.inl rfl));have hA:(So.new 1000000).openC (1,two)=((alA 1000000).1,some ((alA 1000000).2.1.getD noC),0):=Mi a1 a2;have hn:=Is a3;generalize (alA 1000000).1=s1 at *;generalize (alA 1000000).2.1.getD noC=c at *;obtain⟨hS,ht,hm⟩:=fU (Xh _) rfl hA;obtain⟨t,hr,G,I⟩:=KA hS noC;refine⟨s1,hS,⟨c,hA,Mh hA,by rw[ht];exact λn hn=>(Bf hn).elim⟩,⟨t,s1.cell⟩,?_,G,I⟩;rw[RI (p:=(1,two)) Gt.2.1 hS.firm.calm.dead (by rw[<-hm,hn];decide) hr];exact Lv rfl
def ptr (o:Option Nat):Value:=.pointer (o.map λb=>⟨b,0,none⟩)
structure Bp (w0 w:World) (M S D:Nat->Prop) (bb sb mb rb kb K:Nat) (s:So) (rs:Rs) (L:List (Nat×Nat)):Prop where
 lo:∀k,M k->w0.heap.size<=k
 m:dI (λk=>w0.heap.size<=k) w0 w
 E:Env M w sb mb K s
 R:Eu w M S D rb kb K rs
 bx:dH w bb [.pointer (some ⟨sb,0,none⟩),.pointer (some ⟨rb,0,none⟩),ptr (L[0]?.map Prod.fst),ptr (L[1]?.map Prod.fst),ptr (L[0]?.map Prod.snd),ptr (L[1]?.map Prod.snd),.pointer (some ⟨kb,0,none⟩)]
 mbb:M bb
 dis:∀k,S k\/D k->k≠sb/\k≠mb/\k≠bb
 nb:bb≠sb/\bb≠mb
structure Pr (w:World) (M S D:Nat->Prop) (bb sb mb rb:Nat) (s:So) (p:Nat×Nat):Prop where
 C:∃c,An w (λk=>¬M k) p.1 sb c/\c.t.ok/\MsF s c.t.ns
 mc:M p.1
 ne:p.1≠sb/\p.1≠mb/\p.1≠bb
 dis:∀k,S k\/D k->k≠p.1
 Q:∃x nm,CdR w M D p.2 rb x nm
def Bi (w0:World) (bb sb mb rb kb:Nat) (s1:So) (i:Nat) (w:World):Prop:= ∃M S D s rs L,Bp w0 w M S D bb sb mb rb kb (4 * i) s rs L/\L.length=i/\(i=0->Fr0 rs/\s=So.new 1000000)/\(i≠0->Fr1 rs/\s=s1)/\(∀p∈L,Pr w M S D bb sb mb rb s p)/\∀p q,L=[p,q]->p.1≠q.1/\p.2≠q.2
theorem Env.sub {M M1 w sb mb K s}(h:Env M w sb mb K s)(h1:∀k,M1 k->M k)(m1:M1 sb)(m2:M1 mb):Env M1 w sb mb K s:=by
 obtain⟨K',hN,hS⟩:=h.st;exact⟨⟨K',hN,hS.imp (Q:=λk=>¬M1 k) (λk hk _ q=>hk (h1 k q)) (λq=>q m1) (λq=>q m2)⟩,m1,m2,λk hk=>h.lt k (h1 k hk),λk hk=>h.g9 k (h1 k hk),h.tb,h.fit⟩
theorem Bi.bc {w0 w bb sb mb rb kb s1}(h:Bi w0 bb sb mb rb kb s1 2 w)(hS:Sound s1):∃c0 c1 d0 d1,Bc w (λk=>k<w0.heap.size\/k=bb) sb mb rb kb c0 c1 d0 d1 8/\dH w bb [iq sb 0,iq rb 0,iq c0 0,iq c1 0,iq d0 0,iq d1 0,iq kb 0]/\dI (λk=>w0.heap.size<=k) w0 w:=by
 obtain⟨M,S,D,s,rs,L,hp,hl,_,h1,G,h2⟩:=h;obtain⟨f1,rfl⟩:=h1 gm
 match L,hl with
 | [p,q],_=>
 have P:=G p gj;have Q:=G q gj;obtain⟨n1,n2⟩:=h2 p q rfl;obtain⟨cp,I,O,T⟩:=P.C;obtain⟨cq,V,Z,aa⟩:=Q.C;obtain⟨x1,m1,q1⟩:=P.Q;obtain⟨x2,m2,q2⟩:=Q.Q;obtain⟨R,N,A,k0,tA,tk,lA,lk,r⟩:=hp.R;have hM:∀k,(M k/\k≠bb)->M k:=λk q=>q.1;refine⟨p.1,q.1,p.2,q.2,⟨λk=>M k/\k≠bb,S,D,s,cp,cq,rs,x1,m1,x2,m2,λk q=>?_,hp.E.sub hM ⟨hp.E.m1,λe=>hp.nb.1 e.symm⟩ ⟨hp.E.m2,λe=>hp.nb.2 e.symm⟩,I.imp λk hk _ q=>hk (hM k q),O,V.imp λk hk _ q=>hk (hM k q),Z,⟨R,N,A,k0,tA,tk,lA,lk,r.less hM (λk e=>⟨r.sm k e,(hp.dis k (.inl e)).2.2⟩) λk e=>⟨r.dm k e,(hp.dis k (.inr e)).2.2⟩⟩,q1.less hM,q2.less hM,⟨⟨P.mc,P.ne.2.2⟩,Q.mc,Q.ne.2.2⟩,⟨P.ne.1,P.ne.2.1,Q.ne.1,Q.ne.2.1,n1,n2⟩,λk e=>⟨(hp.dis k e).1,(hp.dis k e).2.1,P.dis k e,Q.dis k e⟩,hS,T,aa⟩,hp.bx,hp.m⟩;rcases q with e|e
 .exact⟨AV e hp.m.size,λq=>by have:=hp.lo k q.1;omega⟩
 rw[e];exact⟨hp.bx.z,λq=>q.2 rfl⟩
theorem dI.lowR {w w' sz n c A xs}(m:dI (λk=>w.heap.size<=k) w w')(h:Rd w w.heap.size sz A n c xs):dM w' (λk=>k<w.heap.size) sz A n c xs:=
 m.rdq (.ofRd h (AD _) λ_ hk=>hk) λk hk q=>gd
abbrev SHt:Prop:=∀{w M S D R N rb kb K c tc lc s A tA lA}(_:RefQ w M S D R N rb kb K s A c tA tc lA lc)(db x nm)(_:CdR w M D db rb x nm)(d fA fc aA ac al dA dc)(_:DrQ w (λk=>¬M k) d fA fc aA ac al dA dc)(_:∀y∈al,y.p.name.size<=9223372036854775807)(shp:UInt32),Calls prog 123 #[iq db 0,.agg (dRV d fA fc aA al.length ac dA dc),im shp.toNat,iq kb 0] w (DfO w λk=>¬M k)
