/- For CatalogEntries. -/
import Derived.Test.YtpfofefecamkfaaGreatDoorZ19
import Derived.Test.YtpfofefecamkfaaGreatDoorZ22
import Derived.Test.YtpfofefecamkfaaGreatDoorZ23
namespace Go.Proofs.YtpfofefecamkfaaGreatDoor
open Go.RowKit Proofs.Tryz
set_option maxRecDepth 100000
set_option maxHeartbeats 16000000
set_option linter.all false
section
variable {w:World} {X:Nat->Prop} {sb mb rb kb c c2 d d2 K:Nat}
theorem eU (h:Bc w X sb mb rb kb c c2 d d2 K)(hK:K<=600000)(nm)(k:UInt8):Calls prog 25 #[iq c 0,.string nm,ip k.toNat] w (BoE w X sb mb rb kb c c2 d d2 (K+12)):=by
 obtain⟨M,S,D,s,ca,cb,rs,x,G,x2,nm2,h⟩:=h;refine(Yt M w sb mb c K s h.E gd ca h.C h.o1 h.mc.1 h.ne.1 h.ne.2.1 nm k).mono ?_;rintro e w' ⟨rfl,hE,hC,ok,m⟩;exact⟨⟨_,rfl⟩,SF h (ZB _) rfl hE hC ok m⟩
theorem eV (h:Bc w X sb mb rb kb c c2 d d2 K)(hK:K<=600000)(ids iA ic)(hi:dM w X 1 iA ids.length ic (CY ids))(hl:ids.length<=1000000):Calls prog 26 #[iq c 0,.slice iA ids.length ic] w (BoE w X sb mb rb kb c c2 d d2 (K+12)):=by
 obtain⟨M,S,D,s,ca,cb,rs,x,G,x2,nm2,h⟩:=h;refine(Yu M w sb mb c K s h.E gd ca h.C h.o1 h.mc.1 h.ne.1 h.ne.2.1 ids iA ic (hi.imp λk q _=>(h.hX k q).2) hl).mono ?_;rintro e w' ⟨rfl,hE,hC,ok,m⟩;refine⟨⟨_,rfl⟩,?_⟩;split at hE
 .rename_i h0;rw[AJ h0]at hC ok;exact⟨⟨M,S,D,_,_,cb,rs,x,G,x2,nm2,h.prg hE hC ok m h.snd (.same h.snd.firm) h.ms.1 gd⟩,h.kept m h.mcs⟩
 rename_i h0;rw[AE h0]at hC ok;exact SF h (ZC ids) rfl hE hC ok m
theorem eW (h:Bc w X sb mb rb kb c c2 d d2 K):Calls prog 14 #[iq c 0] w (BoE w X sb mb rb kb c c2 d d2 (K+12)):=by
 obtain⟨M,S,D,s,ca,cb,rs,x,G,x2,nm2,h⟩:=h;refine(Jp M w sb mb c K s h.E ca h.C h.mc.1 h.ne.1 h.ne.2.1).mono ?_;obtain⟨t,ht,I,hm⟩:=KA h.snd ca;rw[ht];rintro e w' ⟨rfl,hE,hC,m⟩;have m2:dI (Mc sb mb c) w w':=m.imp λk _ q=>.inr (.inr q);exact⟨⟨_,rfl⟩,⟨M,S,D,_,_,cb,rs,x,G,x2,nm2,h.prg (hE.more (Nat.le_add_right K 12)) hC I m2 h.snd (.same h.snd.firm) hm gd⟩,h.kept m2 h.mcs⟩
def BoS (w:World) (X:Nat->Prop) (sb mb rb kb c c2 d d2 K:Nat) (e:Ending) (w':World):Prop:=(∃(nm:ByteArray) (k:Int),e = .returned (.tuple #[.string nm,io k]))/\Bo w X sb mb rb kb c c2 d d2 K w'
theorem eX (h:Bc w X sb mb rb kb c c2 d d2 K)(hK:K<=600000)(ch:UInt8)(bs bA bc)(hb:dM w X 1 bA bs.length bc (AO bs)):Calls prog 35 #[iq c 0,ip ch.toNat,.slice bA bs.length bc] w (BoS w X sb mb rb kb c c2 d d2 (K+12)):=by
 obtain⟨M,S,D,s,ca,cb,rs,x,G,x2,nm2,h⟩:=h;refine(Ie M w sb mb c K s h.E gd h.C.c0 ⟨h.C.lt,h.ne.1,h.ne.2.1⟩ ch bA bc bs (hb.imp λk q _=>(h.hX k q).2)).mono ?_;rintro e w' ⟨rfl,hE,m⟩;obtain⟨a,b,_⟩:=GP h.snd.firm ch bs;have m2:dI (Mc sb mb c) w w':=m.imp λk _ q=>q.elim .inl λq=>.inr (.inl q);have hC:=h.C.mst m (λk hk q=>hk (h.mcs k (q.elim .inl λq=>.inr (.inl q)))) λq=>q.elim h.ne.1 h.ne.2.1;exact⟨⟨_,_,rfl⟩,⟨M,S,D,_,_,cb,rs,x,G,x2,nm2,h.prg (hE.more gd) hC h.o1 m2 (h.snd.gr b a) b (h.ms.1.gr b) gd⟩,h.kept m2 h.mcs⟩
theorem eY (h:Bc w X sb mb rb kb c c2 d d2 K)(hK:K<=600000)(nm)(k:UInt8):Calls prog 62 #[iq d 0,.string nm,io k.toNat,iq kb 0] w (BoE w X sb mb rb kb c c2 d d2 (K+12)):=by
 obtain⟨M,S,D,s,ca,cb,rs,x,G,x2,nm2,h⟩:=h;refine(eT h.R gd d x G h.Q nm k.toNat k.toNat_lt).mono ?_;rintro e w' ⟨j,rfl,hP⟩;exact⟨⟨_,rfl⟩,h.ref (hP.low (AC _ _) gd) gd⟩
theorem eZ (h:Bc w X sb mb rb kb c c2 d d2 K)(hK:K<=600000)(ids iA ic)(hi:dM w X 1 iA ids.length ic (CY ids))(hl:ids.length<=1000000):Calls prog 63 #[iq d 0,.slice iA ids.length ic,iq kb 0] w (BoE w X sb mb rb kb c c2 d d2 (K+12)):=by
 obtain⟨M,S,D,s,ca,cb,rs,x,G,x2,nm2,h⟩:=h;refine(eS h.R gd d x G h.Q ids iA ic (hi.imp λk q _=>(h.hX k q).2) hl).mono ?_;rintro e w' ⟨j,rfl,hP⟩;exact⟨⟨_,rfl⟩,h.ref (hP.low (AC _ _) gd) gd⟩
theorem ea (h:Bc w X sb mb rb kb c c2 d d2 K):Calls prog 23 #[iq d 0,iq kb 0] w (BoE w X sb mb rb kb c c2 d d2 (K+12)):=by
 obtain⟨M,S,D,s,ca,cb,rs,x,G,x2,nm2,h⟩:=h;obtain⟨R,N,A,k,tA,tk,lA,lk,r⟩:=id h.R;refine(In r d _ _ _ _ h.Q.bx h.Q.d).mono ?_;intro e w' hr;obtain⟨j,rfl,_⟩:=id hr;exact⟨⟨_,rfl⟩,h.ref ((PbO.fresh h.R h.Q hr).low (AC _ _) (Nat.le_add_right K 12)) gd⟩
theorem ed (h:Bc w X sb mb rb kb c c2 d d2 K)(hK:K<=600000)(ch:UInt8)(bs bA bc)(hb:dM w X 1 bA bs.length bc (AO bs)):Calls prog 64 #[iq d 0,ip ch.toNat,.slice bA bs.length bc] w (BoS w X sb mb rb kb c c2 d d2 (K+12)):=by
 obtain⟨M,S,D,s,ca,cb,rs,x,I,x2,nm2,h⟩:=h;obtain⟨R,N,A,k,tA,tk,lA,lk,r⟩:=id h.R;have G:¬S d:=λq=>r.sd d q h.Q.d;refine(KF r.st gd d _ h.Q.bx (λq=>G (r.rs d q)) ch bA bc bs (hb.imp λk q _=>(h.hX k q).2)).mono ?_;rintro e w' ⟨nm3,j,q,A2,e2,ts,cs,M2,R2,rfl,_,g,r2,_⟩;obtain⟨gs,rs2⟩:=r.store g r2 (Nat.le_succ K);exact⟨⟨_,_,rfl⟩,h.ref (K2:=K+12) ⟨_,_,_,x,I,gs.sd d,⟨_,_,_,_,_,_,_,_,rs2.le gd⟩,h.Q.step gs r.sm G⟩ gd⟩
def BoC (w:World) (X:Nat->Prop) (sb mb rb kb c c2 d d2 K:Nat) (e:Ending) (w':World):Prop:= ∃(v:Nl) (k:Int),e = .returned (.tuple #[.agg (dO v.p v.A v.c),io k])/\Bc w' (λk=>X k\/(w.heap.size<=k/\k<w'.heap.size)) sb mb rb kb c c2 d d2 K/\dI (λk=>¬X k) w w'/\dM w' (λk=>w.heap.size<=k) 1 v.A v.p.ms.length v.c (AY v.p.ms)
theorem ef (h:Bc w X sb mb rb kb c c2 d d2 K)(hK:K<=600000)(dr fA fc aA ac al dA dc)(hd:DrQ w X dr fA fc aA ac al dA dc):Calls prog 13 #[iq c 0,.agg (dRV dr fA fc aA al.length ac dA dc)] w (BoC w X sb mb rb kb c c2 d d2 (K+12)):=by
 obtain⟨M,S,D,s,ca,cb,rs,x,G,x2,nm2,h⟩:=h;refine(Ii M w sb mb c K s h.E gd ca h.C h.o1 h.mc.1 h.ne.1 h.ne.2.1 dr fA fc aA ac al dA dc (hd.imp λk q _=>(h.hX k q).2)).mono ?_;obtain⟨r,hr⟩:=ia (BP (BB dr) 3 s ca);rw[hr];rintro e w' ⟨v0,v1,v2,v3,v4,v5,v6,rfl,hE,hC,ok,m,h0,h1⟩;have hk:=M7 (RW dr) 3 s ca h.snd h.ms.1;rw[hr]at hk;have hB:=h.prg hE hC ok m hk.ok hk.g hk.ms gd;have hW:Bc w' (λk=>X k\/(w.heap.size<=k/\k<w'.heap.size)) sb mb rb kb c c2 d d2 (K+12):=⟨M,S,D,_,_,cb,rs,x,G,x2,nm2,{ hB with hX:=λk q=>q.elim (hB.hX k) λe=>⟨e.2,λm=>by have:=h.E.lt k m;omega⟩ }⟩;have hm:=h.kept m h.mcs;by_cases he:r.e=0
 .obtain⟨mA,mc,hv,ho⟩:=h1 he;rw[hv];exact⟨⟨r.n,mA,mc⟩,_,rfl,hW,hm,.own ho λk q _=>q⟩
 rw[h0 he];exact⟨default,_,rfl,hW,hm,.nil _ _ _⟩
def Bh (w:World) (X:Nat->Prop) (sb mb rb kb c c2 d d2 K b:Nat):Prop:= ∃M S D s ca cb rs x nm x2 nm2,Bm w X M S D sb mb rb kb c c2 d d2 K s ca cb rs x nm x2 nm2/\M b/\¬(S b\/D b)/\b≠sb/\b≠mb/\b≠c/\b≠c2
theorem Bc.hold {w' b}(h:Bc w X sb mb rb kb c c2 d d2 K)(hb:Below w.heap.size w w')(h1:w.heap.size<=b)(h2:b<w'.heap.size):Bh w' X sb mb rb kb c c2 d d2 K b:=by
 obtain⟨M,S,D,s,ca,cb,rs,x,nm,x2,nm2,h⟩:=h;obtain⟨R,N,A,k,tA,tk,lA,lk,r⟩:=h.R;have hn:∀k,k=b->w.heap.size<=k:=λk e=>gd;have hl:=h.E.lt;have:=hl _ h.E.m1;have:=hl _ h.E.m2;have:=hl _ h.mc.1;have:=hl _ h.mc.2;exact⟨Mo M λk=>k=b,S,D,s,ca,cb,rs,x,nm,x2,nm2,⟨λk q=>⟨AV (h.hX k q).1 hb.size,λe=>e.elim (h.hX k q).2 λe=>by have:=(h.hX k q).1;omega⟩,h.E.addS hb λk e=>gd,h.C.addS hb hn,h.o1,h.C2.addS hb hn,h.o2,⟨R,N,A,k,tA,tk,lA,lk,r.addS hb λk e=>gd⟩,h.Q.addS hb hn,h.Q2.addS hb hn,⟨.inl h.mc.1,.inl h.mc.2⟩,h.ne,h.dis,h.snd,h.ms⟩,.inr rfl,λq=>by have:=q.elim (λe=>hl b (r.sm b e)) λe=>hl b (r.dm b e);omega,gd,gd,gd,gd⟩
theorem Bh.put {w' b}(h:Bh w X sb mb rb kb c c2 d d2 K b)(o:Oth b w w'):Bc w' X sb mb rb kb c c2 d d2 K:=by
 obtain⟨M,S,D,s,ca,cb,rs,x,nm,x2,nm2,h,hM,hN,n1,n2,n3,n4⟩:=h;obtain⟨R,N,A,k,tA,tk,lA,lk,r⟩:=h.R;have m:=Ba o;have hU:∀k,k=b->M k:=λk e=>e▸hM;exact⟨M,S,D,s,ca,cb,rs,x,nm,x2,nm2,⟨λk q=>⟨AV (h.hX k q).1 o.size,(h.hX k q).2⟩,h.E.oth o hM n1 n2,h.C.mst m (λk hk e=>hk (hU k e)) (λe=>n3 e.symm),h.o1,h.C2.mst m (λk hk e=>hk (hU k e)) (λe=>n4 e.symm),h.o2,⟨R,N,A,k,tA,tk,lA,lk,r.mst m λk e=>⟨hU k e,λq=>hN (.inl (e▸q))⟩⟩,h.Q.grw (.same m) λk e=>⟨hU k e,λq=>hN (.inr (by rw[<-e,q];exact h.Q.d))⟩,h.Q2.grw (.same m) λk e=>⟨hU k e,λq=>hN (.inr (by rw[<-e,q];exact h.Q2.d))⟩,h.mc,h.ne,h.dis,h.snd,h.ms⟩⟩
end
section
variable {w w':World} {X:Nat->Prop} {sb mb rb kb c c2 d d2 K b:Nat}
theorem Bh.notX (h:Bh w X sb mb rb kb c c2 d d2 K b):¬X b:=λq=>by
 obtain⟨M,S,D,s,ca,cb,rs,x,nm,x2,nm2,h,hM,_⟩:=h;exact(h.hX b q).2 hM
theorem Bm.cm {M S D s ca cb rs x x2 nm nm2}(h:Bm w X M S D sb mb rb kb c c2 d d2 K s ca cb rs x nm x2 nm2)(hK:K<=600000)(dr fA fc aA ac al dA dc)(hd:DrQ w X dr fA fc aA ac al dA dc)(hal:∀y∈al,y.p.name.size<=9223372036854775807):
 Calls prog 60 #[iq d 0,.agg (dRV dr fA fc aA al.length ac dA dc),iq kb 0] w λe w'=>∃(v:Nl) (k:Int),e = .returned (.tuple #[.agg (dO v.p v.A v.c),io k])/\dI (λk=>¬X k) w w'/\∃M2 S2 s2 x3 nm3,Bm w' X M2 S2 D sb mb rb kb c c2 d d2 (K+12) s ca cb s2 x3 nm3 x2 nm2/\Grw M (Sd S d) w M2 (Sd S2 d) w'/\dM w' (λk=>¬M2 k) 1 v.A v.p.ms.length v.c (AY v.p.ms):=by
 refine(ej (AB SH) h.R gd d x nm h.Q dr fA fc aA ac al dA dc (hd.imp λk q _=>(h.hX k q).2) hal).mono ?_;rintro e w' ⟨v,k,rfl,⟨M2,S2,s2,x3,nm3,g,r2,q2,hr⟩,_⟩;obtain⟨b,m⟩:=h.ref2 g r2 q2 gd;exact⟨v,k,rfl,m,M2,S2,s2,x3,nm3,b,g,hr⟩
theorem eu (h:Bc w X sb mb rb kb c c2 d d2 K)(hK:K<=600000)(dr fA fc aA ac al dA dc)(hd:DrQ w X dr fA fc aA ac al dA dc)(hal:∀y∈al,y.p.name.size<=9223372036854775807):
 Calls prog 60 #[iq d 0,.agg (dRV dr fA fc aA al.length ac dA dc),iq kb 0] w λe w'=>∃(v:Nl) (k:Int),e = .returned (.tuple #[.agg (dO v.p v.A v.c),io k])/\Bc w' X sb mb rb kb c c2 d d2 (K+12)/\dI (λk=>¬X k) w w'/\Rd w' w'.heap.size 1 v.A v.p.ms.length v.c (AY v.p.ms):=by
 obtain⟨M,S,D,s,ca,cb,rs,x,nm,x2,nm2,h⟩:=h;refine(h.cm hK dr fA fc aA ac al dA dc hd hal).mono ?_;rintro e w' ⟨v,k,rfl,m,M2,S2,s2,x3,nm3,b,_,hr⟩;exact⟨v,k,rfl,⟨_,_,_,_,_,_,_,_,_,_,_,b⟩,m,hr.rd⟩
theorem ew (h:Bh w X sb mb rb kb c c2 d d2 K b){cs}(hb:dH w b cs)(hK:K<=600000)(dr fA fc aA ac al dA dc)(hd:DrQ w X dr fA fc aA ac al dA dc)(hal:∀y∈al,y.p.name.size<=9223372036854775807):
 Calls prog 60 #[iq d 0,.agg (dRV dr fA fc aA al.length ac dA dc),iq kb 0] w λe w'=>∃(v:Nl) (k:Int),e = .returned (.tuple #[.agg (dO v.p v.A v.c),io k])/\Bh w' X sb mb rb kb c c2 d d2 (K+12) b/\dI (λk=>¬X k) w w'/\dH w' b cs/\Rd w' w'.heap.size 1 v.A v.p.ms.length v.c (AY v.p.ms)/\∀b2 o2,v.A=some ⟨b2,o2,none⟩->0<v.p.ms.length->b2≠b:=by
 obtain⟨M,S,D,s,ca,cb,rs,x,nm,x2,nm2,h,hM,hN,n1,n2,n3,n4⟩:=h;refine(h.cm hK dr fA fc aA ac al dA dc hd hal).mono ?_;rintro e w' ⟨v,k,rfl,m,M2,S2,s2,x3,nm3,b4,g,hr⟩;have hs:∀k,Sd S d k->S k\/D k:=λk q=>q.imp id λe=>by rw[e];exact h.Q.d
 refine⟨v,k,rfl,⟨_,_,_,_,_,_,_,_,_,_,_,b4,g.mm b hM,λq=>hN (q.elim (λe=>hs b (g.rn b (.inl e) hb.z)) .inr),n1,n2,n3,n4⟩,m,g.m.box hb λq=>hN (hs b q),hr.rd,λb2 o2 e h0 e2=>?_⟩;obtain⟨b3,o3,e3,hp⟩:=hr.at_ h0;rw[e]at e3;injection e3 with e3;injection e3 with e3 _;exact hp (by rw[<-e3,e2];exact g.mm b hM)
end
