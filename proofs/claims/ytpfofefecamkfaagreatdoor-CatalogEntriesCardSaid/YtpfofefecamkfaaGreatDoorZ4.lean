/- For CatalogEntries. -/
import Derived.Lib.SlTrimSet
import Derived.Test.YtpfofefecamkfaaGreatDoorZ3
namespace Go.Proofs.YtpfofefecamkfaaGreatDoor
open Go.RowKit Proofs.Tryz
set_option maxRecDepth 100000
set_option maxHeartbeats 16000000
set_option linter.all false
def Fh (w:World) (ss:List Ps) (ns:List Sn) (cur:Nat) (s:Ps):Ending->World->Prop:=
 if CT ss ns cur s=0 then DT w 0 (ss++[s]) ns cur else DT w (CT ss ns cur s) [] [] 0
theorem Pm {w6 w5:World}{B b2 b3 b6 sc nc sA nA ss ns sid sfs A6 c6 cs2 cs3 cs6}(O:dN w6 B sA sc ss nA nc ns)(h6:w6.ownsRow w5.heap.size 89 4 (.slice A6 sfs.length c6) sfs.length (AZ sfs))(hB:B<=w5.heap.size)(hsz:w5.heap.size<=w6.heap.size)(X6:BoxT w6 b6 cs6 39)(X2:dH w6 b2 cs2)(X3:dH w6 b3 cs3):
 dN (w6.alloc (.cells (dR sid A6 sfs.length c6) 33)) B sA sc ss nA nc ns/\(∀j u,(slV ⟨sid,sfs,A6,c6⟩)[j]? = some u->(w6.alloc (.cells (dR sid A6 sfs.length c6) 33)).cell? ((⟨w6.heap.size,0,none⟩:Addr).add j)=some u)/\B<=(w6.alloc (.cells (dR sid A6 sfs.length c6) 33)).heap.size /\
  (w6.alloc (.cells (dR sid A6 sfs.length c6) 33)).ownsRow B 89 4 (.slice A6 sfs.length c6) sfs.length (AZ sfs)/\BoxT (w6.alloc (.cells (dR sid A6 sfs.length c6) 33)) b6 cs6 39/\dH (w6.alloc (.cells (dR sid A6 sfs.length c6) 33)) b2 cs2/\dH (w6.alloc (.cells (dR sid A6 sfs.length c6) 33)) b3 cs3:=by
 obtain⟨y6,hb⟩:=gZ w6 (dR sid A6 sfs.length c6) 33;refine⟨O.keep hb,λj u hu=>?_,by have:=hb.size;omega,(B4 h6 hB).alloc _,X6.keep hb,X2.keep hb X2.z,X3.keep hb X3.z⟩;have:=y6.cell j u hu;rw[DF,BL];exact this
theorem LY {w7 w8 B b2 b3 b6 sc nc g cap sA nA ss ns sid sfs A6 c6 cs2 cs3 cs6}(O:dN w7 B sA sc ss nA nc ns)(h6:w7.ownsRow B 89 4 (.slice A6 sfs.length c6) sfs.length (AZ sfs))(X6:BoxT w7 b6 cs6 39)(X2:dH w7 b2 cs2)(X3:dH w7 b3 cs3)(hown:w8.ownsRow B 33 2 (.slice (gY g 0) (ss.length+1) cap) (ss.length+1) (CX ss++slV ⟨sid,sfs,A6,c6⟩))(hg:w7.grownBy w8 (Value.slice sA ss.length sc).ownBlock)(h2:b2<B)(h3:b3<B)(hsz:B<=w7.heap.size):
 dN w8 B (gY g 0) cap (ss++[⟨sid,sfs,A6,c6⟩]) nA nc ns/\BoxT w8 b6 cs6 39/\dH w8 b2 cs2/\dH w8 b3 cs3/\Below B w7 w8:=by
 have hb:Below B w7 w8:=Au (AC _ _) (AD _) O.sown hg hsz;obtain⟨g',G,q,O8⟩:=O.snocS (s:=⟨sid,sfs,A6,c6⟩) h6 hown hg;injection q with q1 q2 q3;injection q1 with q1;injection q1 with q1;subst q1 q3;exact⟨O8,X6.grown O.sown hg gm,X2.keep hb h2,X3.keep hb h3,hb⟩
theorem LZ {w w7 w8 B b1 b2 b3 b6 nc cap g nA ss ns s v0 v1 v2 cs2 cs3}(hap:dN w8 B (gY g 0) cap (ss++[s]) nA nc ns/\BoxT w8 b6 #[v0,v1,v2].toList 39/\dH w8 b2 cs2/\dH w8 b3 cs3/\Below B w7 w8)(hB:Below b1 w w7)(h1:b1<=B)(h6:B<=b6)(h3:b3<B):
 ∃g' cap' sd',sd'.map dK=ss.map dK++[dK s]/\BoxT (w8.setCell (gX b6 0) (.slice (gY g 0) (ss.length+1) cap)) b6 #[.slice (gY g' 0) sd'.length cap',v1,v2].toList 39/\dN (w8.setCell (gX b6 0) (.slice (gY g 0) (ss.length+1) cap)) B (gY g' 0) cap' sd' nA nc ns/\dH (w8.setCell (gX b6 0) (.slice (gY g 0) (ss.length+1) cap)) b3 cs3/\Below b1 w (w8.setCell (gX b6 0) (.slice (gY g 0) (ss.length+1) cap)):=by
 obtain⟨O,X6,_,X3,hb⟩:=hap;have G:=X6.set (j:=0) (.slice (gY g 0) (ss.length+1) cap) rfl;have I:b6≠b3:=gd;refine⟨g,cap,ss++[s],gj,?_,O.setT X6 _ _,X3.else (p:=gX b6 0) I _,?_⟩
 .have e1:(ss++[s]).length=ss.length+1:=gj;rw[e1];exact G
 exact(hB.trans (hb.mono h1)).setCell (p:=gX b6 0) (show b1<=b6 by omega) _
structure Tb where
 ss:List Ps
 ns:List Sn
 cur:UInt64
instance:Inhabited Tb:=⟨⟨[],[],0⟩⟩
structure Ct where
 t:Tb
 nm:ByteArray
structure Dr where
 rew:Bool
 fs:List Fd
 adds:List En
 drops:List ByteArray
 off:UInt64
 tim:UInt64
abbrev dRV (d : Dr) (A : Option Addr) (c : Nat) (B : Option Addr) (n e : Nat) (C : Option Addr) (f : Nat) : Array Value:= #[.bool d.rew,.slice A d.fs.length c,.slice B n e,.slice C d.drops.length f,il d.off.toNat,il d.tim.toNat]
def Hx:List UInt8:=[48,49,50,51,52,53,54,55,56,57]
def Gn (s:ByteArray):Bool:=decide (s.size<2)||(decide ((s.get! 0).toNat<97)||decide (122<(s.get! 0).toNat))
def GI (s:ByteArray):Bool:=decide ((s.get! 1).toNat=48) || !(Lib.trimS (s.data.toList.drop 1) Hx).isEmpty
def FK (s:ByteArray):Nat:=match Lib.atoiAll (s.data.toList.drop 1)with
 | .ok v=>v.toNat
 | _=>1073741824
def Br (s:ByteArray):Nat:=if Gn s=true then 0 else if GI s=true then 0 else FK s
def Cu (l:List ByteArray):Nat:=l.foldl (λm s=>max m (Br s)) 0
def F2 (c:UInt8) (n:Nat):ByteArray:=⟨(c::Lib.decDigits n).toArray⟩
def no_:ByteArray:=⟨#[]⟩
def Em (c:UInt8):Bool:=decide (97<=c.toNat)&&decide (c.toNat<=122)
def So.stage2 (s:So) (nm:ByteArray) (bs:List UInt8):So×ByteArray×Nat:=
 if (s.put nm bs).2≠0 then ((s.put nm bs).1,no_,(s.put nm bs).2)
 else if ((s.put nm bs).1.sync nm).2≠0 then (((s.put nm bs).1.sync nm).1,no_,((s.put nm bs).1.sync nm).2)
 else (((s.put nm bs).1.sync nm).1,nm,0)
def So.stage (s:So) (c:UInt8) (bs:List UInt8):So×ByteArray×Nat:=
 if Em c=false then (s,no_,1)
 else if s.dead=true then (s,no_,120)
 else if 1073741824<=Cu (Bl s.m) then (s,no_,6)
 else s.stage2 (F2 c (Cu (Bl s.m)+1)) bs
def Ic (ns:List Sn):UInt64:=(CK ns ns.length).id
def CD (l:List UInt8):Tb×Nat:=if Cs l=0 then (⟨(opn ((BO l).drop 3)).1,(opn ((BO l).drop 3)).2.1,Ic (opn ((BO l).drop 3)).2.1⟩,0) else (default,Cs l)
def So.cellE (s:So):ByteArray×Nat:=if s.dead=true then (no_,120) else (s.cell,0)
def So.refresh (s:So) (c:Ct):Ct×Nat:=
 if s.dead=true then (c,120) else if (s.get s.cell).2≠0 then (c,(s.get s.cell).2)
 else if (CD (s.get s.cell).1).2≠0 then (c,(CD (s.get s.cell).1).2) else (⟨(CD (s.get s.cell).1).1,s.cell⟩,0)
def So.ents (s:So):List ByteArray->List (List En)->List (List En)×Nat
 | [],acc=>(acc,0)
 | nm::r,acc=>if (s.get nm).2≠0 then ([],(s.get nm).2) else if (opE (s.get nm).1).1≠0 then ([],(opE (s.get nm).1).1) else So.ents s r (acc++[(opE (s.get nm).1).2])
def So.entries (s:So) (ms:List ByteArray):List En×Nat:=if (s.ents ms []).2≠0 then ([],(s.ents ms []).2) else (ES (s.ents ms []).1,0)
def DD (ns:List Sn) (id:UInt64):Int:=ixA (λf:Sn=>(f.id.toNat:Int)==(id.toNat:Int)) ns
def Tb.nowI (t:Tb):Int:=if t.cur.toNat=0 then -1 else DD t.ns t.cur
def Tb.now (t:Tb):Sn:=if 0<=t.nowI then t.ns.getD t.nowI.toNat default else default
def Tb.lastS (t:Tb):Ps:=t.ss.getD (t.ss.length-1) ps0
def B1:Tb->List Fd->Tb×Nat
 | t,[]=>(t,0)
 | t,f::r=>
   if f.id≠0\/f.need=true then (default,1)
   else if Bk t.lastS.1 t.lastS.2 f.name f.kind.toNat≠0 then (default,Bk t.lastS.1 t.lastS.2 f.name f.kind.toNat)
   else if CT t.ss t.ns t.cur.toNat (C8 t.lastS.1 t.lastS.2 f.name f.kind.toNat,Bu t.lastS.1 t.lastS.2 f.name f.kind.toNat)≠0 then (default,CT t.ss t.ns t.cur.toNat (C8 t.lastS.1 t.lastS.2 f.name f.kind.toNat,Bu t.lastS.1 t.lastS.2 f.name f.kind.toNat))
   else B1 ⟨t.ss++[(C8 t.lastS.1 t.lastS.2 f.name f.kind.toNat,Bu t.lastS.1 t.lastS.2 f.name f.kind.toNat)],t.ns,t.cur⟩ r
def sn0 (now:Sn) (d:Dr) (shape:UInt32):Sn:=⟨now.id+1,now.id,now.seq,now.off,if d.tim.toNat<now.tim.toNat then now.tim else d.tim,shape,[]⟩
def sn1 (now:Sn) (d:Dr) (shape:UInt32):Sn:=if d.rew=true then sn0 now d shape else { sn0 now d shape with seq:=now.seq+1,off:=d.off }
def Id (q:UInt64) (x:En):En:= { x with seq:=q }
def FL (now:Sn) (d:Dr):List En:=if d.rew=true then d.adds else d.adds.map (Id (now.seq+1))
def DO (l:List ByteArray) (s:ByteArray):Bool:=l.any λy=>s.toList==y.toList
def Eo (l:List En) (s:ByteArray):Bool:=l.any λx=>x.name.toList==s.toList
def E7 (now:Sn) (d:Dr) (old:List En):List En:=(old.filter λx=>!DO d.drops x.name)++FL now d
def DP (t:Tb) (d:Dr):Nat:=
 if d.rew=false then (if 0<d.drops.length then 1 else if d.off.toNat<=t.now.off.toNat then 220 else 0) else if 0<=t.nowI then 0 else 150
def Di (t:Tb) (d:Dr) (shape:UInt32) (old:List En):Nat×Sn×List En:=
 if (d.drops.all λn=>Eo old n)=false then (150,default,[])
 else if d.rew=true/\(d.adds.any λx=>decide (t.now.seq.toNat<x.seq.toNat))=true then (1,default,[])
 else if 1073741824<(sn1 t.now d shape).id.toNat then (6,default,[])
 else if 64<(E7 t.now d old).length then (4,default,[])
 else if d.rew=false/\t.now.ms.length<8 then (0,{ sn1 t.now d shape with ms:=t.now.ms },FL t.now d)
 else (0,sn1 t.now d shape,E7 t.now d old)
def So.draft (s:So) (t:Tb) (d:Dr) (shape:UInt32):Nat×Sn×List En:=
 if DP t d≠0 then (DP t d,default,[])
 else if (s.entries t.now.ms).2≠0 then ((s.entries t.now.ms).2,default,[])
 else Di t d shape (s.entries t.now.ms).1
structure Ch where
 s:So
 e:Nat
 t:Tb
 n:Sn
def Ep (s:So) (w:Tb) (sn:Sn) (st:So×ByteArray×Nat):Ch:=
 if st.2.2≠0 then ⟨st.1,st.2.2,default,default⟩
 else if Dw w.ss w.ns { sn with ms:=sn.ms++[st.2.1] }≠0 then ⟨st.1,Dw w.ss w.ns { sn with ms:=sn.ms++[st.2.1] },default,default⟩
 else ⟨st.1,0,⟨w.ss,w.ns++[{ sn with ms:=sn.ms++[st.2.1] }],sn.id⟩,{ sn with ms:=sn.ms++[st.2.1] }⟩
def Er (s:So) (w:Tb) (g:Nat×Sn×List En):Ch:=
 if g.1≠0 then ⟨s,g.1,default,default⟩
 else if BR g.2.2≠0 then ⟨s,BR g.2.2,default,default⟩
 else Ep s w g.2.1 (s.stage 109 (Bq g.2.2))
def BB (d:Dr) (s:So) (t:Tb):Ch:=
 if (B1 t d.fs).2≠0 then ⟨s,(B1 t d.fs).2,default,default⟩ else Er s (B1 t d.fs).1 (s.draft t d (B1 t d.fs).1.lastS.1)
def F3 (f:Fd) (s:So) (t:Tb):Ch:=⟨s,(B1 t [f]).2,(B1 t [f]).1,default⟩
def EI (ids:List UInt64) (s:So) (t:Tb):Ch:=if Df t.ns t.cur ids≠0 then ⟨s,Df t.ns t.cur ids,default,default⟩ else ⟨s,0,⟨t.ss,t.ns.filter λx=>!DU ids x.id,t.cur⟩,default⟩
structure Tr where
 s:So
 c:Ct
 e:Nat
 on:Bool
 n:Sn
def DX (c:Ct) (h:Ch) (q:So×Nat) (nm:ByteArray):Tr:=
 if q.2=0 then ⟨q.1,⟨h.t,nm⟩,0,false,h.n⟩
 else if q.2≠123 then ⟨q.1,c,q.2,false,h.n⟩
 else if (q.1.refresh c).2≠0 then ⟨q.1,c,(q.1.refresh c).2,false,h.n⟩
 else ⟨q.1,(q.1.refresh c).1,0,true,h.n⟩
def Jm (c:Ct) (h:Ch) (st:So×ByteArray×Nat):Tr:=DX c h (if st.2.2=0 then st.1.swap c.nm st.2.1 else (st.1,st.2.2)) st.2.1
def CE (c:Ct) (h:Ch):Tr:=
 if h.e≠0 then ⟨h.s,c,h.e,false,default⟩
 else if B7 h.t.ss h.t.ns h.t.cur.toNat=false then ⟨h.s,c,1,false,default⟩
 else Jm c h (h.s.stage 116 (wrS h.t.ss h.t.ns))
def BP (chg:So->Tb->Ch):Nat->So->Ct->Tr
 | 0,s,c=>⟨s,c,123,false,default⟩
 | k+1,s,c=>if (CE c (chg s c.t)).on=true then BP chg k (CE c (chg s c.t)).s (CE c (chg s c.t)).c else CE c (chg s c.t)
structure dM (w:World) (P:Nat->Prop) (sz:Nat) (A:Option Addr) (n c:Nat) (xs:List Value):Prop where
 rd:Rd w w.heap.size sz A n c xs
 at_:0<n->∃b off,A=some ⟨b,off,none⟩/\P b
section
variable {w w':World} {P Q:Nat->Prop} {sz n c:Nat} {A:Option Addr} {xs:List Value}
theorem dM.keep (h:dM w P sz A n c xs)(hsz:w.heap.size<=w'.heap.size)(hk:∀p:Addr,P p.block->p.block<w.heap.size->w'.cell? p=w.cell? p):dM w' P sz A n c xs:=
 ⟨⟨h.rd.len,h.rd.le,h.rd.cap,λhn=>by
  obtain⟨b,off,e,hb,hc⟩:=h.rd.at_ hn;obtain⟨b2,G,e2,hp⟩:=h.at_ hn;rw[e]at e2;injection e2 with e2;injection e2 with e2 e3;subst e2;exact⟨b,off,e,AV hb hsz,λj u hu=>(hk ⟨b,off+j,none⟩ hp hb).trans (hc j u hu)⟩⟩,h.at_⟩
theorem dM.low (h:dM w P sz A n c xs)(hb:Below w.heap.size w w'):dM w' P sz A n c xs:=h.keep hb.size λ_ _ hl=>hb.cell hl
theorem dM.imp (h:dM w P sz A n c xs)(hi:∀k,P k->k<w.heap.size->Q k):dM w Q sz A n c xs:=
 ⟨h.rd,λhn=>by
  obtain⟨b,off,e,hb,_⟩:=h.rd.at_ hn;obtain⟨b2,G,e2,hp⟩:=h.at_ hn;rw[e]at e2;injection e2 with e2;injection e2 with e2 e3;subst e2;exact⟨b,off,e,hi b hp hb⟩⟩
theorem dM.own {base e}(h:w.ownsRow base e sz (.slice A n c) n xs)(hP:∀k,base<=k->k<w.heap.size->P k):dM w P sz A n c xs:=
 ⟨Ay h,λhn=>by
  obtain⟨g,cap,q,hb,_⟩:=h.form hn;injection q with q1 _ _;have:=h.lt g (by rw[q1];rfl);exact⟨g,0,q1,hP g this.1 this.2⟩⟩
theorem dM.ofRd {B}(h:Rd w B sz A n c xs)(hB:B<=w.heap.size)(hP:∀k,k<B->P k):dM w P sz A n c xs:=
 ⟨h.more hB,λhn=>by obtain⟨b,off,e,hb,_⟩:=h.at_ hn;exact⟨b,off,e,hP b hb⟩⟩
theorem dM.nil (w P sz):dM w P sz none 0 0 []:=⟨Rd.nil _ _ _,λh=>absurd h gd⟩
theorem dM.p {l}(h:dM w P 1 A n c (AO l)):RdP w P A n c l:=⟨h.rd,h.at_⟩
end
theorem Bn {w w':World}{base sz n e v xs}(h:w.ownsRow base e sz v n xs)(hk:∀g,v.ownBlock=some g->g<w.heap.size->w'.heap[g]? = w.heap[g]?):w'.ownsRow base e sz v n xs:=
 ⟨h.1,h.2.imp id λ⟨g,cap,cur,hv,hb,hg,r⟩=>⟨g,cap,cur,hv,hb,(hk g (by rw[hv];rfl) (EX.1 hg).1).trans hg,r⟩⟩
structure dI (M:Nat->Prop) (w w':World):Prop where
 os:w'.os=w.os
 tape:w'.tape=w.tape
 output:w'.output=w.output
 size:w.heap.size<=w'.heap.size
 block:∀k,k<w.heap.size->¬M k->w'.heap[k]? = w.heap[k]?
section
variable {M N:Nat->Prop} {u w w':World} {sb mb b:Nat}
theorem dI.refl (M w):dI M w w:=⟨rfl,rfl,rfl,AD _,λ_ _ _=>rfl⟩
theorem dI.trans (h:dI M u w)(k:dI M w w'):dI M u w':=⟨k.os.trans h.os,k.tape.trans h.tape,k.output.trans h.output,AS h.size k.size,λi hi h1=>(k.block i (AV hi h.size) h1).trans (h.block i hi h1)⟩
theorem dI.imp (h:dI M w w')(hi:∀k,k<w.heap.size->M k->N k):dI N w w':=⟨h.os,h.tape,h.output,h.size,λk hk hn=>h.block k hk λq=>hn (hi k hk q)⟩
theorem dI.of (h:Below w.heap.size w w'):dI M w w':=⟨h.os,h.tape,h.output,h.size,λk hk _=>h.block k hk⟩
theorem dI.ofOst (h:Ost sb mb w w')(h1:M sb)(h2:M mb):dI M w w':=⟨h.os,h.tape,h.output,h.size,λk hk hn=>h.block k hk (λq=>hn (by rw[q];exact h1)) (λq=>hn (by rw[q];exact h2))⟩
theorem dI.ofOth (h:Oth b w w')(h1:M b):dI M w w':=⟨h.os,h.tape,h.output,h.size,λk hk hn=>h.block k hk (λq=>hn (by rw[q];exact h1))⟩
theorem dI.drew (h:dI M u w):dI M u w.drew:=⟨h.os,h.tape,h.output,h.size,h.block⟩
theorem dI.cell (h:dI M w w'){p}(hp:p.block<w.heap.size)(hn:¬M p.block):w'.cell? p=w.cell? p:=DE (w:=w) (h.block _ hp hn)
theorem dI.below (h:dI M w w'){B}(h1:∀k,M k->B<=k)(h2:B<=w.heap.size):Below B w w':=⟨h.os,h.tape,h.output,h.size,λk hk=>h.block k gd (λq=>by have:=h1 k q;omega)⟩
theorem dI.box {cs}(h:dI M w w')(hb:dH w b cs)(hn:¬M b):dH w' b cs:=
 ⟨λj v hj=>(DE (w:=w) (a:=gX b j) (h.block b hb.z hn)).trans (hb.cell j v hj),λj hj=>(EY (w:=w) (a:=gX b j) (h.block b hb.z hn)).trans (hb.free j hj),AV hb.z h.size⟩
theorem dI.rdq {P sz n c A xs}(h:dI M w w')(hr:dM w P sz A n c xs)(hP:∀k,P k->¬M k):dM w' P sz A n c xs:=hr.keep h.size λ_ hp hl=>h.cell hl (hP _ hp)
theorem dI.own {base sz n e v xs}(h:dI M w w')(ho:w.ownsRow base e sz v n xs)(hn:∀k,base<=k->¬M k):w'.ownsRow base e sz v n xs:=
 Bn ho λg hg hl=>h.block g hl (hn g (ho.lt g hg).1)
end
structure dJ (w:World) (P:Nat->Prop) (sA:Option Addr) (sc:Nat) (ss:List Sl) (nA:Option Addr) (nc:Nat) (ns:List Nl):Prop where
 s:dM w P 2 sA ss.length sc (CX ss)
 si:∀s∈ss,dM w P 4 s.A s.fs.length s.c (AZ s.fs)
 n:dM w P 7 nA ns.length nc (BQ ns)
 ni:∀s∈ns,dM w P 1 s.A s.p.ms.length s.c (AY s.p.ms)
section
variable {w w':World} {P Q:Nat->Prop} {sA nA:Option Addr} {sc nc:Nat} {ss:List Sl} {ns:List Nl}
theorem dJ.tab (h:dJ w P sA sc ss nA nc ns):TabR w w.heap.size sA sc ss nA nc ns:=⟨h.s.rd,λs hs=>(h.si s hs).rd,h.n.rd,λs hs=>(h.ni s hs).rd⟩
theorem dJ.keep (h:dJ w P sA sc ss nA nc ns)(hsz:w.heap.size<=w'.heap.size)(hk:∀p:Addr,P p.block->p.block<w.heap.size->w'.cell? p=w.cell? p):dJ w' P sA sc ss nA nc ns:=
 ⟨h.s.keep hsz hk,λs hs=>(h.si s hs).keep hsz hk,h.n.keep hsz hk,λs hs=>(h.ni s hs).keep hsz hk⟩
theorem dJ.low (h:dJ w P sA sc ss nA nc ns)(hb:Below w.heap.size w w'):dJ w' P sA sc ss nA nc ns:=h.keep hb.size λ_ _ hl=>hb.cell hl
theorem dJ.imp (h:dJ w P sA sc ss nA nc ns)(hi:∀k,P k->k<w.heap.size->Q k):dJ w Q sA sc ss nA nc ns:=⟨h.s.imp hi,λs hs=>(h.si s hs).imp hi,h.n.imp hi,λs hs=>(h.ni s hs).imp hi⟩
theorem dJ.mst {M}(h:dJ w P sA sc ss nA nc ns)(m:dI M w w')(hP:∀k,P k->¬M k):dJ w' P sA sc ss nA nc ns:=h.keep m.size λ_ hp hl=>m.cell hl (hP _ hp)
theorem dJ.own {B}(h:dN w B sA sc ss nA nc ns)(hP:∀k,B<=k->k<w.heap.size->P k):dJ w P sA sc ss nA nc ns:=
 ⟨.own h.sown hP,λs hs=>.own (h.sin s hs) hP,.own h.nown hP,λs hs=>.own (h.nin s hs) hP⟩
theorem dJ.nil (w P):dJ w P none 0 [] none 0 []:=⟨.nil _ _ _,gj,.nil _ _ _,gj⟩
end
structure EnQ (w:World) (P:Nat->Prop) (A:Option Addr) (c:Nat) (l:List El):Prop where
 row:dM w P 6 A l.length c (Ax l)
 ins:∀x∈l,dM w P 10 x.A x.p.stats.length x.c (BH x.p.stats)
section
variable {w w':World} {P Q:Nat->Prop} {A:Option Addr} {c:Nat} {l:List El}
theorem EnQ.en (h:EnQ w P A c l):EnR w w.heap.size A c l:=⟨h.row.rd,λx hx=>(h.ins x hx).rd⟩
theorem EnQ.keep (h:EnQ w P A c l)(hsz:w.heap.size<=w'.heap.size)(hk:∀p:Addr,P p.block->p.block<w.heap.size->w'.cell? p=w.cell? p):EnQ w' P A c l:=⟨h.row.keep hsz hk,λx hx=>(h.ins x hx).keep hsz hk⟩
theorem EnQ.low (h:EnQ w P A c l)(hb:Below w.heap.size w w'):EnQ w' P A c l:=h.keep hb.size λ_ _ hl=>hb.cell hl
theorem EnQ.imp (h:EnQ w P A c l)(hi:∀k,P k->k<w.heap.size->Q k):EnQ w Q A c l:=⟨h.row.imp hi,λx hx=>(h.ins x hx).imp hi⟩
theorem EnQ.mst {M}(h:EnQ w P A c l)(m:dI M w w')(hP:∀k,P k->¬M k):EnQ w' P A c l:=h.keep m.size λ_ hp hl=>m.cell hl (hP _ hp)
theorem EnQ.own {B}(h:dQ w B A c l)(hP:∀k,B<=k->k<w.heap.size->P k):EnQ w P A c l:=⟨.own h.own hP,λx hx=>.own (h.ins x hx) hP⟩
end
structure Tabs (w:World):Prop where
 crc:Dx w
 pow:Lib.TabIs prog w "internal/strconv.uint64pow10" .u64 Lib.pow10Tab
 rng:∃(tp:TypeId) (p:Value),w.var? prog "strconv.ErrRange" = some #[.iface tp p]
 z:9<=w.heap.size
theorem Po:prog.globalNamed "internal/strconv.uint64pow10" = some 3:=gh
theorem Pp:prog.globalNamed "strconv.ErrRange" = some 2:=gh
theorem Pq {w w':World}{name g}(hg:prog.globalNamed name=some g)(hb:w'.heap[g]? = w.heap[g]?):w'.var? prog name=w.var? prog name:=by
 unfold World.var?;rw[hg,Option.bind_some,Option.bind_some,hb]
theorem Tabs.keep {w w'}(h:Tabs w)(hz:w.heap.size<=w'.heap.size)(hb:∀k,k<9->w'.heap[k]? = w.heap[k]?):Tabs w':=
 ⟨λj hj=>(DE (w:=w) (a:=gX 0 j) (hb 0 gm)).trans (h.crc j hj),
  (Pq Po (hb _ gm)).trans h.pow,
  by obtain⟨tp,p,e⟩:=h.rng;exact⟨tp,p,(Pq Pp (hb _ gm)).trans e⟩,AS h.z hz⟩
theorem Tabs.low {w w'}(h:Tabs w)(hb:Below w.heap.size w w'):Tabs w':=h.keep hb.size λk hk=>hb.block k (AV hk h.z)
theorem Tabs.mst {w w' M}(h:Tabs w)(m:dI M w w')(hM:∀k,M k->9<=k):Tabs w':=
 h.keep m.size λk hk=>m.block k (AV hk h.z) λq=>by have:=hM k q;omega
theorem Pt {α:Type}{p : α->Bool}:∀ {l:List α},l.dropWhile p=[]->∀b∈l,p b=true
 | [],_,b,hb=>by cases hb
 | a::l,h,b,hb=>by
   rw[List.dropWhile_cons]at h;cases ha:p a with
   | false=>rw[ha]at h;simp at h
   | true=>
     rw[ha]at h;rcases List.mem_cons.1 hb with rfl|hb
     .exact ha
     exact Pt (by simpa using h) b hb
theorem Pu {α:Type}{p : α->Bool}:∀ {l:List α},∀b∈l.takeWhile p,p b=true
 | [],b,hb=>by cases hb
 | a::l,b,hb=>by
   rw[List.takeWhile_cons]at hb;cases ha:p a with
   | false=>rw[ha]at hb;simp at hb
   | true=>
     rw[ha]at hb;rcases List.mem_cons.1 hb with rfl|hb
     .exact ha
     exact Pu b (by simpa using hb)
theorem W9 {l cs}(h:Lib.trimS l cs=[]):∀b∈l,cs.contains b=true:=by
 unfold Lib.trimS Lib.trimLeftS at h;have h1:=Pt h;intro b hb;have e:l.reverse=l.reverse.takeWhile (cs.contains ·)++l.reverse.dropWhile (cs.contains ·):=(List.takeWhile_append_dropWhile).symm;have G:b∈l.reverse:=List.mem_reverse.2 hb;rw[e]at G;rcases List.mem_append.1 G with q|q
 .exact Pu b q
 exact h1 b (by unfold Lib.trimRightS;exact List.mem_reverse.2 q)
theorem WA {b}(h:Hx.contains b=true):48<=b.toNat/\b.toNat<=57:=by
 simp only[Hx,List.contains,List.elem_eq_mem]at h;simp at h;rcases h with rfl|rfl|rfl|rfl|rfl|rfl|rfl|rfl|rfl|rfl<;>decide
theorem Pv:∀(l:List UInt8) (acc:Nat),(∀b∈l,48<=b.toNat/\b.toNat<=57)->(∃u,Lib.parseUint10 acc l = .ok u)\/Lib.parseUint10 acc l = .range
 | [],acc,_=>.inl ⟨acc,by simp[Lib.parseUint10]⟩
 | c::r,acc,h=>by
   have hc:=h c (List.mem_cons_self ..);unfold Lib.parseUint10;rw[AJ hc];split
   .simp
   split
   .simp
   exact Pv r _ (λb hb=>h b (List.mem_cons_of_mem _ hb))
theorem Pw {l}(h0:l≠[])(h:∀b∈l,48<=b.toNat/\b.toNat<=57):(∃v:Nat,Lib.atoiAll l = .ok (v:Int)/\(v:Int)<=9223372036854775807)\/Lib.atoiAll l = .range:=by
 cases l with
 | nil=>exact absurd rfl h0
 | cons c r=>
   have:=h c (List.mem_cons_self ..);have n1:¬c.toNat=43:=gd;have n2:¬c.toNat=45:=gd;unfold Lib.atoiAll;simp only[n2,n1,or_self,if_false];have hm:Lib.parseMag (c::r)=Lib.parseUint10 0 (c::r):=by unfold Lib.parseMag;rw[AE gj]
   rw[hm];rcases Pv (c::r) 0 h with ⟨u,hp⟩|hp
   .rw[hp];by_cases hu:9223372036854775808<=u
    .right;simp[hu]
    left;refine⟨u,?_,gd⟩;simp[hu]
   rw[hp];exact .inr rfl
theorem Px {s}(h:GI s=false)(h2:2<=s.size):s.data.toList.drop 1≠[]/\∀b∈s.data.toList.drop 1,48<=b.toNat/\b.toNat<=57:=by
 unfold GI at h;rw[Bool.or_eq_false_iff,Bool.not_eq_false',List.isEmpty_iff]at h;refine⟨λq=>?_,λb hb=>WA (W9 h.2 b hb)⟩;have:=congrArg List.length q;simp at this;have e:s.data.size=s.size:=rfl;omega
theorem Py {s}{v:Nat}(h:Lib.atoiAll (s.data.toList.drop 1) = .ok (v:Int)):FK s=v:=by unfold FK;rw[h];simp
theorem Pz {s}(h:Lib.atoiAll (s.data.toList.drop 1) = .range):FK s=1073741824:=by unfold FK;rw[h]
structure So.fit (s:So):Prop where
 nm:∀p∈s.m,Aq p.1=true
 sm:s.small
 ce:s.cell.size<=24
theorem WC {s s2:So}(h:s.fit)(hm:s2.m=s.m)(hc:s2.cell=s.cell):s2.fit:=⟨by rw[hm];exact h.nm,λp hp=>h.sm p (by rw[<-hm];exact hp),by rw[hc];exact h.ce⟩
theorem So.change_cell (s:So):s.change.1.cell=s.cell:=by unfold So.change;split<;>rfl
theorem Hy {s:So}(h:s.fit):s.change.1.fit:=WC h s.change_m s.change_cell
theorem WD (s:So)(nm bs):(s.put nm bs).1.cell=s.cell:=by
 unfold So.put
 repeat' split
 all_goals first|rfl|exact s.change_cell
theorem WE (s:So)(nm):(s.sync nm).1.cell=s.cell:=by
 unfold So.sync
 repeat' split
 all_goals first|rfl|exact s.change_cell
theorem WF {s:So}(h:s.fit)(nm bs):(s.put nm bs).1.fit:=by
 refine⟨?_,(Vn s nm bs).small h.sm,by rw[WD];exact h.ce⟩;unfold So.put;split
 .exact h.nm
 split
 .exact h.nm
 rename_i hp;split
 .exact h.nm
 split
 .exact h.nm
 split
 .exact h.nm
 split
 .exact(Hy h).nm
 intro p G;rcases Ia G with q|q
 .exact(Hy h).nm p q
 rw[q];simpa using hp
theorem WH {s:So}(h:s.fit)(nm):(s.sync nm).1.fit:=by
 refine⟨?_,(Vq s nm).small h.sm,by rw[WE];exact h.ce⟩;unfold So.sync;split
 .exact h.nm
 split
 .exact h.nm
 rename_i t ht;split
 .intro p G;rcases Ia G with q|q
  .exact(Hy h).nm p q
  rw[q];exact(show Aq nm=true from h.nm (nm,t) (Ff ht))
 exact(Hy h).nm
theorem Q3 {s:So}(h:s.fit)(o nw):(s.swap o nw).1.fit:=by
 have G:(s.swap o nw).1.cell.size<=24:=by
  unfold So.swap;split
  .exact h.ce
  split
  .exact h.ce
  split
  .exact h.ce
  rename_i hp;split
  .exact L1 (by simpa using hp)
  rw[s.change_cell];exact h.ce
 refine⟨?_,(Vr s o nw).small h.sm,G⟩;unfold So.swap;split
 .exact h.nm
 split
 .exact h.nm
 split
 .exact h.nm
 split
 .exact(Hy h).nm
 exact(Hy h).nm
theorem WI {s:So}(h:s.fit){nm}(hn:nm∈Bl s.m):nm.size<=24:=by
 obtain⟨t,ht⟩:=LU hn;exact L1 (h.nm _ (Ff ht))
theorem WJ (q):(So.new q).fit:=⟨λ_ h=>(Bf h).elim,λ_ h=>(Bf h).elim,AU _⟩
theorem Q4 {s:So}(h:s.fit)(nm):(s.get nm).1.length<=65536:=by
 unfold So.get;split
 .exact AU _
 split
 .exact AU _
 rename_i t ht;exact h.sm _ (Ff ht)
structure Env (M:Nat->Prop) (w:World) (sb mb K:Nat) (s:So):Prop where
 st:∃N,N<=K/\StR (λk=>¬M k) w sb mb N s
 m1:M sb
 m2:M mb
 lt:∀k,M k->k<w.heap.size
 g9:∀k,M k->9<=k
 tb:Tabs w
 fit:s.fit
section
variable {M:Nat->Prop} {w w':World} {sb mb K K2:Nat} {s s2:So}
theorem Env.hP (h:Env M w sb mb K s):∀k,w.heap.size<=k->¬M k:=λk hk q=>by have:=h.lt k q;omega
theorem Env.low (h:Env M w sb mb K s)(hb:Below w.heap.size w w'):Env M w' sb mb K s:=
 ⟨by obtain⟨N,hN,hS⟩:=h.st;exact⟨N,hN,hS.keep hb⟩,h.m1,h.m2,λk hk=>AV (h.lt k hk) hb.size,h.g9,h.tb.low hb,h.fit⟩
theorem Env.more (h:Env M w sb mb K s)(hK:K<=K2):Env M w sb mb K2 s:=
 ⟨by obtain⟨N,hN,hS⟩:=h.st;exact⟨N,AS hN hK,hS⟩,h.m1,h.m2,h.lt,h.g9,h.tb,h.fit⟩
theorem Env.on (h:Env M w sb mb K s){N2}(hS:StR (λk=>¬M k) w' sb mb N2 s2)(hN:N2<=K2)(O:Ost sb mb w w')(hf:s2.fit):Env M w' sb mb K2 s2:=
 ⟨⟨N2,hN,hS⟩,h.m1,h.m2,λk hk=>AV (h.lt k hk) O.size,h.g9,h.tb.mst (dI.ofOst (M:=M) O h.m1 h.m2) h.g9,hf⟩
end
def Mc (sb mb cb:Nat) (k:Nat):Prop:=k=sb\/k=mb\/k=cb
def Ms (sb mb:Nat) (k:Nat):Prop:=k=sb\/k=mb
theorem dI.ost {sb mb w w'}(h:Ost sb mb w w'):dI (Ms sb mb) w w':=.ofOst h (.inl rfl) (.inr rfl)
theorem dI.toC {sb mb cb w w'}(h:dI (Ms sb mb) w w'):dI (Mc sb mb cb) w w':=h.imp λ_ _ q=>q.elim .inl λq=>.inr (.inl q)
def An (w:World) (P:Nat->Prop) (cb sb:Nat) (c:Ct):Prop:=
 ∃sA sc ss nA nc ns,dH w cb [.pointer (some ⟨sb,0,none⟩),.slice sA (List.length ss) sc,.slice nA (List.length ns) nc,il c.t.cur.toNat,.string c.nm]/\dJ w P sA sc ss nA nc ns/\ss.map dK=c.t.ss/\ns.map dL=c.t.ns
section
variable {P Q:Nat->Prop} {w w':World} {sb cb:Nat} {c:Ct}
theorem An.low (h:An w P cb sb c)(hb:Below w.heap.size w w'):An w' P cb sb c:=by
 obtain⟨sA,sc,ss,nA,nc,ns,hx,ht,e1,e2⟩:=h;exact⟨sA,sc,ss,nA,nc,ns,hx.keep hb hx.z,ht.low hb,e1,e2⟩
theorem An.mst {M}(h:An w P cb sb c)(m:dI M w w')(hP:∀k,P k->¬M k)(hc:¬M cb):An w' P cb sb c:=by
 obtain⟨sA,sc,ss,nA,nc,ns,hx,ht,e1,e2⟩:=h;exact⟨sA,sc,ss,nA,nc,ns,m.box hx hc,ht.mst m hP,e1,e2⟩
theorem An.imp (h:An w P cb sb c)(hi:∀k,P k->k<w.heap.size->Q k):An w Q cb sb c:=by
 obtain⟨sA,sc,ss,nA,nc,ns,hx,ht,e1,e2⟩:=h;exact⟨sA,sc,ss,nA,nc,ns,hx,ht.imp hi,e1,e2⟩
theorem An.c0 (h:An w P cb sb c):w.cell? (gX cb 0)=some (iq sb 0):=by
 obtain⟨sA,sc,ss,nA,nc,ns,hx,_⟩:=h;exact hx.cell 0 _ rfl
theorem An.c4 (h:An w P cb sb c):w.cell? (gX cb 4)=some (.string c.nm):=by
 obtain⟨sA,sc,ss,nA,nc,ns,hx,_⟩:=h;exact hx.cell 4 _ rfl
theorem An.lt (h:An w P cb sb c):cb<w.heap.size:=by
 obtain⟨sA,sc,ss,nA,nc,ns,hx,_⟩:=h;exact hx.z
end
theorem Q5 (s:ByteArray)(k)(h:k<s.size):(s[k]'h).toNat=(s.get! k).toNat:=by
 obtain⟨d⟩:=s;have h2:k<d.size:=h;have e:(ByteArray.mk d).get! k=d[k]:=by
  show d[k]! = d[k];exact getElem!_pos d k h2
 rw[e];rfl
theorem WK (s:ByteArray):(s.extract 1 s.size).data.toList=s.data.toList.drop 1:=by
 have e:s.size=s.data.size:=rfl;rw[ByteArray.data_extract,Array.toList_extract,e];simp[List.extract];exact CF gj
theorem WL (l)(h:l≠[]):((⟨l.toArray⟩:ByteArray).toList==[])=false:=by
 rw[AQ,EM];intro q;exact h (by simpa using q)
section
variable {P:Program} {ops:Array Oper} {w0:World} {Q:List Slot->Prop} {o:Oper} {rest:List Oper} {ss:List Slot}
theorem La {src dst e}(t l)(hs:P.underlying src=some (.slice e))(he:P.underlying e=some (.int .u8))(hd:P.underlying dst=some .string)(hop:o.op = .convert src dst (.tmp t))(ht:BG ss t = .has (F9 l))(htl:t<ss.length)(hk:(o.looksAt ops).all (λi=>i==t||(BG ss i).exact)=true)(hin:(o.looksAt ops).contains t=true)(hg:∀u,Region.wanted o (yielded ops ((Bj ss).setIfInBounds t u))=true)(hn:wpA P ops Ext w0 Q rest (AX ss o.dst (.is (.string ⟨l.toArray⟩)))):wpA P ops Ext w0 Q (o::rest) ss:=by
 refine J5 t (F9 l) _ ht htl (λ_ _ h=>by rw[hop]at h;cases h) hk hin hg (Cq _) (λu w _ hu=>?_) hn;obtain⟨A,c,rfl,hr⟩:=hu;have h1:=Eb (P:=P) w hs he hd hr;have e1:Act.eval ⟨(Bj ss).setIfInBounds t (.slice A l.length c),[]⟩ (.tmp t) = .slice A l.length c:=by simp[Act.eval,IG,htl]
 have e2:(execOp (Act.eval ⟨(Bj ss).setIfInBounds t (.slice A l.length c),[]⟩) o).run P w = .ok (.value (.string ⟨l.toArray⟩)) w:=by
  simp[execOp,hop,e1,h1,Result.andThen]
 rw[e2];exact⟨AC _ _,rfl⟩
end
theorem WN (w k os):Below w.heap.size w (Go.Sort.grow (w.drewN k) os):=
 ⟨rfl,rfl,rfl,by show w.heap.size<=(w.heap++os).size;rw[Array.size_append];omega,λj hj=>by show(w.heap++os)[j]? = _;rw[Array.getElem?_append_left hj]⟩
theorem Jn (n):(Lib.decDigits n).length<=n+1:=by
 induction n using Nat.strongRecOn with
 | _ n ih=>
   rw[Lib.decDigits];split
   .simp
   have:=ih (n/10) gd;rw[AR,Ea];omega
theorem WO (c n)(h:n<=1073741824):(F2 c n).size<=maxLen:=by
 have:=Jn n;have:(F2 c n).size=(Lib.decDigits n).length+1:=by
  show(c::Lib.decDigits n).toArray.size=_;simp
 unfold maxLen;omega
theorem WP (l:List ByteArray)(k x)(h:l[k]? = some x):Cu (l.take (k+1))=max (Cu (l.take k)) (Br x):=by
 unfold Cu;rw[Cn,h,List.foldl_append];rfl
theorem gD (s):(Br s:Int)<=9223372036854775807\/9223372036854775807<(FK s:Int):=by
 unfold Br;split
 .left;omega
 split
 .left;omega
 omega
theorem WQ {s}(h2:2<=s.size)(h:GI s=false):(FK s:Int)<=9223372036854775807:=by
 have G:=Px h h2;rcases Pw G.1 G.2 with ⟨v,hv,I⟩|hv
 .rw[Py hv];exact I
 rw[Pz hv];decide
theorem WR (s):(Br s:Int)<=9223372036854775807:=by
 unfold Br;split
 .omega
 rename_i hl;split
 .omega
 rename_i ho;refine WQ ?_ (by simpa using ho);unfold Gn at hl;simp at hl;omega
theorem Jo (w:World)(c):(Slot.has (F9 [c])).holds (.slice (gY w.heap.size 0) 1 1) (w.alloc (.cells #[ip c.toNat] 5)):=by
 refine⟨_,_,rfl,?_⟩;have:=Rd.lit (n:=1) (sz:=1) w 5 #[ip c.toNat] rfl gm;exact this.more gj
theorem WS (c n):(⟨[c].toArray⟩:ByteArray)++(⟨(Lib.decDigits n).toArray⟩:ByteArray)=F2 c n:=by
 apply ByteArray.ext;rw[ByteArray.data_append];simp[F2]
def WT (M:Nat->Prop) (w:World) (sb mb K:Nat) (r:So×ByteArray×Nat) (e:Ending) (w':World):Prop:=
 e = .returned (.tuple #[.string r.2.1,io (r.2.2:Int)])/\Env M w' sb mb K r.1/\dI (Ms sb mb) w w'
theorem Q6 {s:So}{c}(h:Em c=false)(bs):s.stage c bs=(s,no_,1):=by unfold So.stage;rw[AJ h]
theorem WU {s:So}{c}(h:Em c=true)(hd:s.dead=true)(bs):s.stage c bs=(s,no_,120):=by unfold So.stage;rw[AE gz,AJ hd]
theorem WV {s:So}{c}(h:Em c=true)(hd:s.dead=false)(hm:1073741824<=Cu (Bl s.m))(bs):s.stage c bs=(s,no_,6):=by unfold So.stage;rw[AE gz,AE (by rw[hd];simp),AJ hm]
theorem WW {s:So}{c}(h:Em c=true)(hd:s.dead=false)(hm:¬ 1073741824<=Cu (Bl s.m))(bs):s.stage c bs=s.stage2 (F2 c (Cu (Bl s.m)+1)) bs:=by unfold So.stage;rw[AE gz,AE (by rw[hd];simp),AE hm]
theorem WX {w w' er}{t:Tb}{e}(h:DT w er t.ss t.ns t.cur.toNat e w'):
 ∃sA sc ss nA nc ns,e = .returned (.tuple #[.agg #[.slice sA (List.length ss) sc,.slice nA (List.length ns) nc,il t.cur.toNat],io er])/\dN w' w.heap.size sA sc ss nA nc ns/\ss.map dK=t.ss/\ns.map dL=t.ns/\Below w.heap.size w w':=h
theorem WY {w w' l e}(h:GD w l e w'):DT w (CD l).2 (CD l).1.ss (CD l).1.ns (CD l).1.cur.toNat e w':=by
 by_cases h0:Cs l=0
 .have e1:CD l=(⟨(opn ((BO l).drop 3)).1,(opn ((BO l).drop 3)).2.1,Ic (opn ((BO l).drop 3)).2.1⟩,0):=AJ h0;rw[e1];unfold GD at h;rw[AJ h0]at h;clear e1 h0;generalize opn ((BO l).drop 3)=X at *;exact h
 have e1:CD l=(default,Cs l):=AE h0;rw[e1];unfold GD at h;rw[AE h0]at h;clear e1 h0;generalize Cs l=X at *;exact h
theorem Q7 (P w sb mb N s)(h:StR P w sb mb N s):Calls prog 37 #[iq sb 0] w λe w'=>e = .returned (.tuple #[.string s.cellE.1,io (s.cellE.2:Int)])/\w=w':=by
 have c6:=h.bx.cell 6 _ rfl;have:=h.bx.cell 3 _ rfl;cases hd:s.dead with
 | true=>
   rw[hd]at c6;have HG:ga (s.cellE=(no_,120)):=AB (by unfold So.cellE;rw[AJ hd]);clear hd;go_enter func37,ntmps37;(go_wp2_with fail);go_ret2;rw[HG.o];exact⟨rfl,rfl⟩
 | false=>
   rw[hd]at c6;have HG:ga (s.cellE=(s.cell,0)):=AB (by unfold So.cellE;rw[AE (by rw[hd];simp)]);clear hd;go_enter func37,ntmps37;(go_wp2_with fail);go_ret2;rw[HG.o];exact⟨rfl,rfl⟩
theorem Lb (P w sb cb c)(h:An w P cb sb c):Calls prog 15 #[iq cb 0] w λe w'=>e = .returned (.string c.nm)/\w=w':=by
 have:=h.c4;go_enter func15,ntmps15;go_wp2_with fail
 go_ret;exact⟨rfl,rfl⟩
theorem An.put {M:Nat->Prop}{w cb sb c t nm}(h:An w (λk=>¬M k) cb sb c)(hM:M cb){sA nA sc nc ss ns}(hT:dJ w (λk=>¬M k) sA sc ss nA nc ns)(e1:ss.map dK=t.ss)(e2:ns.map dL=t.ns):
 An ((((w.setCell (gX cb 1) (.slice sA ss.length sc)).setCell (gX cb 2) (.slice nA ns.length nc)).setCell (gX cb 3) (il t.cur.toNat)).setCell (gX cb 4) (.string nm)) (λk=>¬M k) cb sb ⟨t,nm⟩:=by
 obtain⟨G,I,O,T,V,Z,hx,_⟩:=h;have o:=((((Oth.refl cb w).set 1 (.slice sA ss.length sc)).set 2 (.slice nA ns.length nc)).set 3 (il t.cur.toNat)).set 4 (.string nm);refine⟨sA,sc,ss,nA,nc,ns,(((hx.set (j:=1) (.slice sA ss.length sc) rfl).set (j:=2) (.slice nA ns.length nc) rfl).set (j:=3) (il t.cur.toNat) rfl).set (j:=4) (.string nm) rfl,?_,e1,e2⟩;exact hT.keep o.size λp hp hl=>o.cell hl λq=>hp (by rw[q];exact hM)
theorem Gp (w cb a b c d):Oth cb w ((((w.setCell (gX cb 1) a).setCell (gX cb 2) b).setCell (gX cb 3) c).setCell (gX cb 4) d):=((((Oth.refl cb w).set 1 a).set 2 b).set 3 c).set 4 d
theorem Env.oth {M w w' sb mb K cb s}(h:Env M w sb mb K s)(o:Oth cb w w')(hM:M cb)(h1:cb≠sb)(h2:cb≠mb):Env M w' sb mb K s:=by
 obtain⟨N,hN,hS⟩:=h.st;obtain⟨D,hD⟩:=hS.mp;exact⟨⟨N,hN,⟨hS.bx.oth o (λq=>h1 q.symm),⟨D,hD.move o.size (o.block mb hD.lt (λq=>h2 q.symm)) (λp hp hl=>o.cell hl λq=>hp (by rw[q];exact hM))⟩,hS.nP,hS.ne,hS.ok⟩⟩,h.m1,h.m2,λk hk=>AV (h.lt k hk) o.size,h.g9,h.tb.mst (dI.ofOth (M:=M) o hM) h.g9,h.fit⟩
def WZ (M:Nat->Prop) (w:World) (sb mb cb K:Nat) (s:So) (r:Ct×Nat) (e:Ending) (w':World):Prop:=
 e = .returned (io (r.2:Int))/\Env M w' sb mb K s/\An w' (λk=>¬M k) cb sb r.1/\dI (λk=>k=cb) w w'
theorem Wa {s:So}{c}(h:s.dead=true):s.refresh c=(c,120):=by unfold So.refresh;rw[AJ h]
theorem Wb {s:So}{c}(h:s.dead=false)(h2:(s.get s.cell).2≠0):s.refresh c=(c,(s.get s.cell).2):=by unfold So.refresh;rw[AE gz,AJ h2]
theorem Wc {s:So}{c}(h:s.dead=false)(h2:(s.get s.cell).2=0)(h3:(CD (s.get s.cell).1).2≠0):s.refresh c=(c,(CD (s.get s.cell).1).2):=by unfold So.refresh;rw[AE gz,AE (by rw[h2];simp),AJ h3]
theorem Wd {s:So}{c}(h:s.dead=false)(h2:(s.get s.cell).2=0)(h3:(CD (s.get s.cell).1).2=0):s.refresh c=(⟨(CD (s.get s.cell).1).1,s.cell⟩,0):=by unfold So.refresh;rw[AE gz,AE (by rw[h2];simp),AE (by rw[h3];simp)]
theorem Rd.lenE {w B n c A l}(h:Rd w B 6 A n c (Ax l)):n=l.length:=h.lenA elV 6 Fa gd
theorem FM (a l):Ax (a::l)=elV a++Ax l:=rfl
def Jq (w:World) (g:Nat) (lb:Array Value) (p:El->Bool):Prop:=
 ∀(W:World) (f:El),Below w.heap.size w W->Calls prog g (#[.agg (eNV f.p f.A f.c)]++lb) W λe w'=>e = .returned (.bool (p f))/\Below w.heap.size w w'
theorem Lc (w n c A l)(hr:Rd w w.heap.size 6 A n c (Ax l))(hmax:l.length<=1000000)(g lb p)(eg:∀args w,(callFunc g args).run prog w = .ok (.enter g args) w)(hp:Jq w g lb p):
 Calls prog 158 #[.slice A n c,.func (.func g) #[] lb] w λe w'=>e = .returned (io (ixA p l))/\Below w.heap.size w w':=by
 obtain rfl:=hr.lenE;go_enter func158,ntmps158;go_wp2_with fail
 go_loopw [5,8] (λ_ kv wr=>∃k:Nat,k<=l.length/\kv = io k/\ga (∀j,j<k->p (l.getD j default)=false)/\ga (Below w.heap.size w wr)) (λ_ kv _=>l.length-(intOf kv).toNat);case atStart=>exact⟨0,AU _,rfl,AB (λj h=>gd),AB (AC _ _)⟩
 case round=>
  obtain⟨k,hk,rfl,hf,I⟩:=hrel;by_cases O:k<l.length
  .obtain⟨b,off,rfl,hb,T⟩:=(hr.below I.o).elA O;obtain⟨f0,f1,f2,f3,f4,f5⟩:=T _ rfl;clear T;have G:=hp wr (l.getD k default) I.o;generalize V:l.getD k default=f at *;have HF:=AB V;clear V hp;cases hq:p f with
   | true=>
     rw[hq]at G;have HQ:=AB hq;clear hq;(go_wp2_with fail);refine G.mono ?_;rintro e w' ⟨rfl,hb'⟩;(go_wp2_with fail);go_ret;exact⟨by rw[FA O (by rw[HF.o];exact HQ.o) hf.o];rfl,hb'⟩
   | false=>
     rw[hq]at G;have HQ:=AB hq;clear hq;(go_wp2_with fail);refine G.mono ?_;rintro e w' ⟨rfl,hb'⟩;(go_wp2_with fail);go_roundw;case rel=>
      refine⟨k+1,gd,by go_num,AB (λj hj=>?_),AB hb'⟩;by_cases e:j=k
      .rw[e,HF.o];exact HQ.o
      exact hf.o j gd
     case measure=>exact Co k _ O
  obtain rfl:k=l.length:=gd;go_wp2_with fail
  go_ret;exact⟨by rw[Fs hf.o];rfl,I.o⟩
theorem Q8 (w n c A l)(hr:Rd w w.heap.size 6 A n c (Ax l))(hmax:l.length<=1000000)(g lb p)(eg:∀args w,(callFunc g args).run prog w = .ok (.enter g args) w)(hp:Jq w g lb p):
 Calls prog 95 #[.slice A n c,.func (.func g) #[] lb] w λe w'=>e = .returned (.bool (l.any p))/\Below w.heap.size w w':=by
 have hc:=Lc w n c A l hr hmax g lb p eg hp;rw[<-IK];generalize ixA p l=r at *;clear hr eg hp;go_enter func95,ntmps95;go_wp2_with fail
 refine hc.mono ?_;rintro e w' ⟨rfl,hb⟩;go_wp2_with fail
 go_ret;exact⟨rfl,hb⟩
theorem We (w B n c A xs)(hr:Rd w B 6 A n c xs)(h1:∀u∈xs,u.oneCell'=true)(hb:n * 72<=140737488355328)(hB:B<=w.heap.size):
 Calls prog 94 #[.slice A n c] w (GT w 97 6 n xs):=by
 have:=λW=>Lib.run_eql_slice_nil (P:=prog) W 46 97 A n c 0 0 underlying46;cases A with
 | none=>
   obtain⟨rfl,rfl⟩:=hr.none_;go_enter func94,ntmps94;(go_wp2_with fail);go_ret;exact⟨_,rfl,Av _ _ _ _,AC _ _⟩
 | some ad=>
   have I:=Ew w (base:=w.heap.size) 97 6 0 #[] (AD _) gm rfl;have O:=hr.alloc hB (.cells #[] 97);go_enter func94,ntmps94;go_wp2_with (at_builtin;refine Aw _ E4 rfl _ _ rfl w.heap.size _ 0 [] rfl I B (some ad) _ c _ rfl O h1 gd gj ?_;intro v2 w2 G T _;simp only[BL,CN]at G;have V:=Au (hI w _) (AD _) I T gj)
   go_ret;exact⟨v2,rfl,G,V⟩
theorem Q9 (v){v0 v1 v2 v3 v4 v5}(hv:elV v=[v0,v1,v2,v3,v4,v5]):∀(arr:List El) (i:Nat),i<arr.length ->
 ((((((Ax arr).set (i * 6) v0).set (i * 6+1) v1).set (i * 6+2) v2).set (i * 6+3) v3).set (i * 6+4) v4).set (i * 6+5) v5=Ax (arr.set i v)
 | a::arr,0,_=>by
   rw[AH,FM,FM,hv];simp[elV]
 | a::arr,i+1,h=>by
   have ih:=Q9 v hv arr i (by simpa using h);rw[AI,FM,FM,<-ih];have e:∀t,(i+1) * 6+t=(i * 6+t)+1+1+1+1+1+1:=λt=>gd;have e0:(i+1) * 6=(i * 6)+1+1+1+1+1+1:=gd;rw[e 1,e 2,e 3,e 4,e 5,e0];simp[elV]
theorem Wf (w g o n c)(hn:0<n)(hc:∀j,j<n * 6->(w.cell? (gX g (o+j))).isSome=true)(hf:∀j,j<n * 6->w.frozen? ⟨g,o+j,none⟩=false):
 ∃L:List Value,∀ty,(Builtin.clear_ #[46] ty #[.slice (gY g o) n c]).run prog w = .ok (.tuple #[]) (w.setCells g o L):=by
 have G:(Builtin.zeroCells (Value.agg #[.string ⟨#[]⟩,.bool false,il 0,io 0,im 0,ir]).cells n).toList.length=n * 6:=by
  simp[Builtin.zeroCells];rfl
 have I:∀v∈(Builtin.zeroCells (Value.agg #[.string ⟨#[]⟩,.bool false,il 0,io 0,im 0,ir]).cells n).toList,v.oneCell'=true:=by
  intro v hv;simp only[Builtin.zeroCells,Array.toList_map,CG]at hv;obtain⟨i,_,rfl⟩:=hv;have e:(Value.agg #[.string ⟨#[]⟩,.bool false,il 0,io 0,im 0,ir]).cells=#[.string ⟨#[]⟩,.bool false,il 0,io 0,im 0,ir]:=rfl;rw[e];have h7:i % 6<6:=Nat.mod_lt _ gm;show((#[.string ⟨#[]⟩,.bool false,il 0,io 0,im 0,ir]:Array Value)[i % 6]!).oneCell'=true;generalize i % 6=k at h7
  match k,h7 with
  | 0,_=>rfl
  | 1,_=>rfl
  | 2,_=>rfl
  | 3,_=>rfl
  | 4,_=>rfl
  | 5,_=>rfl
 have O:=run_storeCells_cells (P:=prog) g o (Builtin.zeroCells (Value.agg #[.string ⟨#[]⟩,.bool false,il 0,io 0,im 0,ir]).cells n).toList 0 w (by rw[G];simpa using hc) (by rw[G];simpa using hf) I;refine⟨(Builtin.zeroCells (Value.agg #[.string ⟨#[]⟩,.bool false,il 0,io 0,im 0,ir]).cells n).toList,λty=>?_⟩;simp only[Nat.add_zero]at O;obtain⟨m,rfl⟩:∃m,n=m+1:=⟨n-1,gd⟩;simp[Builtin.clear_,Fl underlying46,E4.zs,O]
def Jr (w:World) (g fn:Nat) (lb:Array Value) (p:El->Bool):Prop:=
 ∀(W:World) (f:El),Oth g w W->Calls prog fn (#[.agg (eNV f.p f.A f.c)]++lb) W λe w'=>e = .returned (.bool (p f))/\Below W.heap.size W w'
theorem QA:∀(l:List El) (k:Nat),(Ax l).take (k * 6)=Ax (l.take k)
 | [],k=>by simp[Ax]
 | a::l,0=>by simp[Ax]
 | a::l,k+1=>by
   rw[EL,FM,FM,<-QA l k,show(k+1) * 6=(elV a).length+k * 6 by rw[Fa];omega,List.take_length_add_append]
theorem Ld {w:World}{B g c n j arr}(h:w.ownsRow B 97 6 (.slice (gY g 0) n c) n (Ax arr))(hl:arr.length=n)(hj:j<n):
 w.cell? (gX g (j * 6))=some (.string (arr.getD j default).p.name)/\w.cell? (gX g (j * 6+1))=some (.bool (arr.getD j default).p.keys)/\w.cell? (gX g (j * 6+2))=some (il ((arr.getD j default).p.seq.toNat:Int)) /\
 w.cell? (gX g (j * 6+3))=some (io (arr.getD j default).p.rows.toInt)/\w.cell? (gX g (j * 6+4))=some (im ((arr.getD j default).p.sch.toNat:Int))/\w.cell? (gX g (j * 6+5))=some (.slice (arr.getD j default).A (arr.getD j default).p.stats.length (arr.getD j default).c):=by
 obtain⟨b,off,e,_,hc⟩:=(Ay h).elA (i:=j) gd;injection e with e;injection e with e1 e2;subst e1 e2;obtain⟨f0,f1,f2,f3,f4,f5⟩:=hc _ rfl;simp only[BL]at f0 f1 f2 f3 f4 f5;exact⟨f0,f1,f2,f3,f4,f5⟩
theorem Wh (w fn lb p)(eg:∀args w,(callFunc fn args).run prog w = .ok (.enter fn args) w){g}(hp:Jr w g fn lb p):
 Calls prog 98 #[ir,.func (.func fn) #[] lb] w λe w'=>e = .returned ir/\Below w.heap.size w w':=by
 go_enter func98,ntmps98;go_wp2_with fail
 refine(Lc w 0 0 none [] (Rd.nil _ _ _) gm fn lb p eg (λW f hb=>(hp W f (Oth.of hb)).mono λe w' h=>⟨h.1,AM hb hb.size h.2⟩)).mono ?_;rintro e w1 ⟨rfl,hb1⟩;have e1:ixA p ([]:List El) = -1:=rfl;rw[e1];go_wp2_with fail
 go_ret;exact⟨rfl,hb1⟩
def Tb.ok (t:Tb):Prop:=B7 t.ss t.ns t.cur.toNat=true
structure Tb.bd (ss:List Sl) (ns:List Nl):Prop where
 s1:1<=ss.length
 s16:ss.length<=16
 n32:ns.length<=32
 f8:∀s∈ss,1<=s.fs.length/\s.fs.length<=8
 m8:∀s∈ns,s.p.ms.length<=8
theorem Tb.ok.bd {t:Tb}(h:t.ok){ss ns}(e1:ss.map dK=t.ss)(e2:ns.map dL=t.ns):Tb.bd ss ns:=by
 obtain⟨⟨a,b,c⟩,hs,hn⟩:=Gh h;rw[<-e1,Ae]at a b;rw[<-e2,Ae]at c;refine⟨a,b,c,λs G=>?_,λs G=>?_⟩
 .have h1:=hs (dK s) (by rw[<-e1];exact CG.2 ⟨s,G,rfl⟩);have h2:=Ef (id:=s.id) (l:=s.fs) h1;exact⟨h2.2.1,h2.2.2⟩
 have h1:=hn (dL s) (by rw[<-e2];exact CG.2 ⟨s,G,rfl⟩);have h2:BJ s.p.ms=true:=by
  exact h1
 unfold BJ at h2;simp at h2;exact h2.1
theorem Wi {t:Tb}:Df t.ns t.cur []=0:=rfl
theorem Wj (l:List Sn):(l.filter λx=>!DU [] x.id)=l:=by
 rw[List.filter_eq_self];intro a _;rfl
def Wk (w:World) (t:Tb) (e:Ending) (w':World):Prop:=
 ∃sA sc ss nA nc ns,e = .returned (.agg #[.slice sA (List.length ss) sc,.slice nA (List.length ns) nc,il t.cur.toNat])/\dN w' w.heap.size sA sc ss nA nc ns/\ss.map dK=t.ss/\ns.map dL=t.ns/\Below w.heap.size w w'
structure EnOk (l:List En):Prop where
 len:l.length<=64
 nm:∀x∈l,x.name.size<=24/\x.stats.length<=8
theorem QB (b):EnOk (opE b).2:=by
 unfold opE;split
 .exact⟨AU _,λx hx=>(Bf hx).elim⟩
 split
 .exact⟨AU _,λx hx=>(Bf hx).elim⟩
 split
 .exact⟨AU _,λx hx=>(Bf hx).elim⟩
 split
 .rename_i t _ _ _ h;have h1:=h.1;unfold BR at h1;split at h1
  .omega
  rename_i h2;split at h1
  .rename_i h3;refine⟨by show(ents t).1.length<=64;omega,λx hx=>?_⟩;have h4:=Gj (JX h3 x hx);exact⟨(Hq h4.1).2,h4.2.2.2.2.2.1⟩
  omega
 exact⟨AU _,λx hx=>(Bf hx).elim⟩
theorem QC:∀(L:List (List En)),(∀l∈L,l.length<=64)->L.flatten.length<=L.length * 64
 | [],_=>gj
 | a::L,h=>by
   have:=QC L (λl hl=>h l (List.mem_cons_of_mem _ hl));have:=h a (List.mem_cons_self ..);rw[List.flatten_cons,AR,Bg];omega
theorem Le:STy prog 100 46 1 24 ir:=⟨underlying100,gh,rfl,gm,gm⟩
theorem dQ.grown {w w' B c A l}(h:dQ w B A c l){base n v xs}(ho:w.ownsRow base 46 1 v n xs)(hg:w.grownBy w' v.ownBlock):dQ w' B A c l:=
 ⟨DJ h.own ho hg gm,λx hx=>DJ (h.ins x hx) ho hg gm⟩
def Js (w:World) (r:List En×Nat) (e:Ending) (w':World):Prop:=
 ∃A k,∃out:List El,e = .returned (.tuple #[.slice A out.length k,io (r.2:Int)])/\dQ w' w.heap.size A k out/\out.map El.p=r.1/\Below w.heap.size w w'
theorem Wm {s:So}{nm r}{acc:List (List En)}(h:(s.get nm).2≠0):s.ents (nm::r) acc=([],(s.get nm).2):=by show(if _ then _ else _)=_;rw[AJ h]
theorem Wn {s:So}{nm r}{acc:List (List En)}(h:(s.get nm).2=0)(h2:(opE (s.get nm).1).1≠0):s.ents (nm::r) acc=([],(opE (s.get nm).1).1):=by show(if _ then _ else _)=_;rw[AE gz,AJ h2]
theorem QD {s:So}{nm r}{acc:List (List En)}(h:(s.get nm).2=0)(h2:(opE (s.get nm).1).1=0):s.ents (nm::r) acc=s.ents r (acc++[(opE (s.get nm).1).2]):=by show(if _ then _ else _)=_;rw[AE gz,AE (by rw[h2];simp)]
theorem QE {s:So}{ms e}(h:s.ents ms []=([],e))(h0:e≠0):s.entries ms=([],e):=by unfold So.entries;rw[h,AJ h0]
theorem QF {s:So}{ms}{L:List (List En)}(h:s.ents ms []=(L,0)):s.entries ms=(ES L,0):=by unfold So.entries;rw[h];rfl
theorem Wo {w B n c b A l}(h:Rd w B 4 A n c (AZ l))(hb:w.heap[b]? = some (.cells B3 33 (0,0)))(hn:0<n):∀g off,A=some ⟨g,off,none⟩->g≠b:=by
 rintro g off rfl rfl;obtain⟨b2,G,e,_,hc⟩:=h.at_ hn;injection e with e;injection e with e1 e2 _;subst e1 e2;cases l with
 | nil=>have:=h.len;simp[AZ]at this;omega
 | cons f l=>
   have h1:=hc 1 (.string f.name) rfl;rw[cell_of_row w g (off+1) _ _ _ hb]at h1;rcases off with _|off
   .cases h1
   rw[Array.getElem?_eq_none gj]at h1;cases h1
theorem QH {w w' b sz n c A xs}(h:Rd w w.heap.size sz A n c xs)(hn:∀g off,0<n->A=some ⟨g,off,none⟩->g≠b)(o:Oth b w w'):Rd w' w'.heap.size sz A n c xs:=
 ⟨h.len,h.le,h.cap,λh0=>by
  obtain⟨b2,off,e,hb,hc⟩:=h.at_ h0;exact⟨b2,off,e,AV hb o.size,λj u hu=>(o.cell (p:=gX b2 (off+j)) hb (hn _ _ h0 e)).trans (hc j u hu)⟩⟩
theorem dJ.set3q {w P sA nA sc nc b ss ns v0 v1 v2}(h:dJ w (λk=>P k/\k≠b) sA sc ss nA nc ns):dJ (set3b w b v0 v1 v2) P sA sc ss nA nc ns:=by
 have o:=(((Oth.refl b w).set 0 v0).set 1 v1).set 2 v2;exact(h.keep (w':=set3b w b v0 v1 v2) o.size (λp hp hl=>o.cell hl hp.2)).imp (λk hk _=>hk.1)
def If (P:Nat->Prop) (w:World) (r:Tb×Nat) (e:Ending) (w':World):Prop:=
 ∃sA sc ss nA nc ns,e = .returned (.tuple #[.agg #[.slice sA (List.length ss) sc,.slice nA (List.length ns) nc,il (r.1.cur.toNat:Int)],io (r.2:Int)])/\dJ w' P sA sc ss nA nc ns/\ss.map dK=r.1.ss/\ns.map dL=r.1.ns/\Below w.heap.size w w'
theorem Wp {t f r}(h:f.id≠0\/f.need=true):B1 t (f::r)=(default,1):=by unfold B1;rw[AJ h]
theorem QI {t f r}(h:¬(f.id≠0\/f.need=true))(h2:Bk t.lastS.1 t.lastS.2 f.name f.kind.toNat≠0):B1 t (f::r)=(default,Bk t.lastS.1 t.lastS.2 f.name f.kind.toNat):=by unfold B1;rw[AE h,AJ h2]
theorem QJ {t f r}(h:¬(f.id≠0\/f.need=true))(h2:Bk t.lastS.1 t.lastS.2 f.name f.kind.toNat=0)(h3:CT t.ss t.ns t.cur.toNat (C8 t.lastS.1 t.lastS.2 f.name f.kind.toNat,Bu t.lastS.1 t.lastS.2 f.name f.kind.toNat)≠0):
 B1 t (f::r)=(default,CT t.ss t.ns t.cur.toNat (C8 t.lastS.1 t.lastS.2 f.name f.kind.toNat,Bu t.lastS.1 t.lastS.2 f.name f.kind.toNat)):=by unfold B1;rw[AE h,AE (by rw[h2];simp),AJ h3]
theorem QK {t f r}(h:¬(f.id≠0\/f.need=true))(h2:Bk t.lastS.1 t.lastS.2 f.name f.kind.toNat=0)(h3:CT t.ss t.ns t.cur.toNat (C8 t.lastS.1 t.lastS.2 f.name f.kind.toNat,Bu t.lastS.1 t.lastS.2 f.name f.kind.toNat)=0):
 B1 t (f::r)=B1 ⟨t.ss++[(C8 t.lastS.1 t.lastS.2 f.name f.kind.toNat,Bu t.lastS.1 t.lastS.2 f.name f.kind.toNat)],t.ns,t.cur⟩ r:=by rw[B1,AE h,AE (by rw[h2];simp),AE (by rw[h3];simp)]
theorem QL {t:Tb}{s}(h:CT t.ss t.ns t.cur.toNat s=0):Tb.ok ⟨t.ss++[s],t.ns,t.cur⟩:=by
 unfold CT at h;split at h
 .omega
 split at h
 .rename_i h2;exact h2
 omega
theorem QM {t:Tb}{ss:List Sl}(e:ss.map dK=t.ss)(h:1<=ss.length):t.lastS=dK (ss.getD (ss.length-1) default):=by
 unfold Tb.lastS;rw[<-e,Ae,Gc]
