/- For CatalogEntries. -/
import Derived.Maps.OwnSet
import Derived.Maps.Views
import Derived.StringKeys
import Derived.Deep.RegionLawGrows
import Derived.Maps.Own
import Derived.BigRegion
import Derived.Test.YtpfofefecamkfaaGreatDoorZ1
namespace Go.Proofs.YtpfofefecamkfaaGreatDoor
open Go.RowKit Proofs.Tryz
set_option maxRecDepth 100000
set_option maxHeartbeats 16000000
set_option linter.all false
def okS (rw:Int) (s:St):Bool:=decide (s.rows.toInt=rw)&&Dh s
def Hs (c1:Bool) (sq:Nat) (rw:Int) (kb:Bool) (sc:Nat) (L:List St):Bool:=
 if c1=false then false else if 1073741824<sq then false else if rw<0 then false else if 256<rw then false else if L.all (okS rw)=false then false
 else if kb=true then decide (sc=0)&&decide (L.length=1) else !decide (sc=0)&&(decide (1<=L.length)&&decide (L.length<=8))
theorem Ou (x):CP x=Hs (Aq x.name) x.seq.toNat x.rows.toInt x.keys x.sch.toNat x.stats:=by
 have hs:Oj x.rows x.stats=x.stats.all (okS x.rows.toInt):=rfl;unfold CP Hs;rw[hs];generalize x.rows.toInt=rw;generalize x.seq.toNat=sq;generalize x.stats.all (okS rw)=al;cases Aq x.name with
 | false=>simp
 | true=>
   by_cases h1:1073741824<sq
   .rw[AG (show ¬sq<=1073741824 by omega)];simp[h1]
   rw[AF (show sq<=1073741824 by omega)];by_cases h2:rw<0
   .rw[AG (show ¬ 0<=rw by omega)];simp[h1,h2]
   rw[AF (show 0<=rw by omega)];by_cases h3:256<rw
   .rw[AG (show ¬rw<=256 by omega)];simp[h1,h2,h3]
   rw[AF (show rw<=256 by omega)];cases al with
   | false=>simp[h1,h2,h3]
   | true=>
     simp only[h1,h2,h3,CV,if_false,Bool.true_eq_false];cases x.keys with
     | false=>simp only[EK,if_false];cases decide (1<=x.stats.length)<;>cases decide (x.stats.length<=8)<;>simp
     | true=>
       simp only[if_true];by_cases h4:x.stats.length=1
       .rw[AF (show 1<=x.stats.length by omega),AF (show x.stats.length<=8 by omega)];simp
       rw[AG h4];simp
theorem Ov {L:List St}{f k}(hk:k<L.length)(h:(L.take k).all f=true)(h2:f (L.getD k default)=true):(L.take (k+1)).all f=true:=by
 rw[Cn,List.all_append,h];simp[hk,List.getD]at h2 ⊢;exact h2
theorem Jb {L:List St}{f k}(hk:k<L.length)(h2:f (L.getD k default)=false):L.all f=false:=by
 apply Bool.eq_false_iff.2;intro q;rw[Da]at q;have:=q _ (B9 hk);rw[h2]at this;cases this
theorem FI:Maps.Keyed prog 9:=Maps.string_keyed underlying9
theorem Ow:prog.underlying 182=some (.map 9 4):=underlying182
theorem LI (l s t):Ca (l++[s]) t=(Ca l t||(s.toList==t.toList)):=by
 unfold Ca;simp
theorem Uy (l s):Ca (l++[s]) s=true:=by rw[LI];simp
def Met (w:World) (b:Nat) (names:List ByteArray):Prop:=
 ∃D:DataW Unit,w.ownsMap prog 9 (plainElem prog 4) b names.length D/\∀s:ByteArray,D.atKey (.string s.data.toList) (.lit (.bool false)) = .lit (.bool (Ca names s))
theorem Ox (w:World):Met (w.alloc (.map #[] 0)) w.heap.size []:=
 ⟨.map [],World.ownsMap_made w _ _ _,λs=>WideAt.atKey_none _ gj⟩
section
variable {w w':World} {b:Nat} {names:List ByteArray}
theorem Met.lt (h:Met w b names):b<w.heap.size:=by
 obtain⟨D,hD,_⟩:=h;exact hD.lt
theorem Met.grown {row}(h:Met w b names)(hg:w.grownBy w' row)(hne:some b≠row):Met w' b names:=by
 obtain⟨D,hD,hA⟩:=h;exact⟨D,hD.kept hg hne,hA⟩
theorem Met.keep (h:Met w b names)(hb:Below w.heap.size w w'):Met w' b names:=
 h.grown (row:=none) ⟨hb.os,hb.tape,hb.output,hb.size,λk hk _=>hb.block k hk⟩ gj
theorem Met.isMap (h:Met w b names):∃es c,w.heap[b]? = some (.map es c):=by
 obtain⟨D,hD,_⟩:=h;obtain⟨es,c,hb,_⟩:=hD;exact⟨es,c,hb⟩
theorem Met.of_block (h:Met w b names)(hb:w'.heap[b]? = w.heap[b]?):Met w' b names:=by
 obtain⟨D,⟨es,c,h1,h2,h3,h4⟩,hA⟩:=h;exact⟨D,⟨es,c,hb.trans h1,h2,h3,h4⟩,hA⟩
theorem Met.wz {b2 B}(h:Met w b names)(hz:Wz b2 B w w')(hne:b≠b2):Met w' b names:=by
 obtain⟨es,c,hb⟩:=h.isMap;exact h.of_block ((hz.oth b _ hb (λ_ _ q=>gu) hne).trans hb.symm)
theorem Met.look (h:Met w b names)(s)(hs:s.size<=maxLen):(Instr.lookup 182 (.map (some b)) (.string s) false).run prog w = .ok (.bool (Ca names s)) w:=by
 obtain⟨D,hD,hA⟩:=h;obtain⟨v,ps,G,hv⟩:=hD.lookup FI Ow (z:=.bool false) rfl (zd:=.lit (.bool false)) (zp:=[]) (plainElem_bool underlying4 false) (Go.WideMaps.keyOf_string_mk underlying9 hs);rw[G];rw[hA s]at hv;unfold plainElem at hv;rw[underlying4]at hv;cases v<;>simp at hv;obtain⟨hv,_⟩:=hv;rw[hv]
theorem Met.put (h:Met w b names)(s)(hs:s.size<=maxLen)(hn:names.length<maxLen):∃w',(Instr.mapUpdate 182 (.map (some b)) (.string s) (.bool true)).run prog w = .ok () w'/\Met w' b (names++[s])/\w.grownBy w' (some b):=by
 obtain⟨D,hD,hA⟩:=h;obtain⟨w',G,I,hg⟩:=hD.update FI Ow hn (Go.WideMaps.keyOf_string_mk underlying9 hs) (plainElem_bool underlying4 true);refine⟨w',G,⟨_,by rw[AR];exact I,λt=>?_⟩,hg⟩;by_cases ht:s=t
 .subst ht;rw[Maps.atKey_put_same hD.isMap (by trivial),Uy]
 rw[Maps.atKey_put_other (by intro q;injection q with q;exact ht (Gi (by rw[EM,EM];exact q.symm))),hA t,LI];have:(s.toList==t.toList)=false:=by rw[AQ];exact λq=>ht (Gi q)
 rw[this,Bool.or_false]
end
section
variable {w w':World} {b mb B c:Nat} {A:Option Addr} {l:List UInt8}
theorem WB.map (h:WB w b B A c l){es clk}(hm:w.heap[mb]? = some (.map es clk))(hg:w.grownBy w' (some mb)):WB w' b B A c l:=by
 obtain⟨arr,ha⟩:=h.bx.ty;have I:b≠mb:=by rintro rfl;rw[ha]at hm;cases hm
 have G:w'.heap[b]? = w.heap[b]?:=hg.block b h.z (by intro q;injection q with q;exact I q);refine⟨⟨⟨λj v hj=>(DE (w:=w) (a:=gX b j) G).trans (h.bx.bx.cell j v hj),λj hj=>(EY (w:=w) (a:=gX b j) G).trans (h.bx.bx.free j hj),AV h.z hg.size⟩,arr,G.trans ha⟩,AS h.le hg.size,?_⟩;refine h.own.kept (row:=some mb) hg ?_;rcases h.own.2 with ⟨q,_⟩|⟨g,cap,cur,q,_,hc,_⟩
 .rw[q];exact .inl rfl
 refine .inr λr=>?_;rw[q]at r;simp only[Value.ownBlock]at r;injection r with r;subst r;rw[hc]at hm;cases hm
theorem dH.map {k cs}(h:dH w k cs)(hg:w.grownBy w' (some mb))(hne:k≠mb):dH w' k cs:=by
 have G:w'.heap[k]? = w.heap[k]?:=hg.block k h.z (by intro q;injection q with q;exact hne q);exact⟨λj v hj=>(DE (w:=w) (a:=gX k j) G).trans (h.cell j v hj),λj hj=>(EY (w:=w) (a:=gX k j) G).trans (h.free j hj),AV h.z hg.size⟩
theorem LJ (hg:w.grownBy w' (some mb))(hB:B<=mb)(hz:B<=w.heap.size):Below B w w':=⟨hg.os,hg.tape,hg.output,hg.size,λk hk=>hg.block k gd (by intro q;injection q with q;omega)⟩
end
structure WG (w:World) (b B q:Nat) (l:List UInt8):Prop where
 bx:BoxT w b [.slice (some ⟨q,0,none⟩) l.length l.length] 180
 le:B<=w.heap.size
 lit:∀j u,(AO l)[j]? = some u->w.cell? ⟨q,j,none⟩=some u
 qz:q<w.heap.size
section
variable {b B q:Nat} {w w':World} {l:List UInt8}
theorem WG.keep (h:WG w b B q l)(hb:Below w.heap.size w w'):WG w' b B q l:=⟨h.bx.keep hb,AS h.le hb.size,λj u hj=>(hb.cell (p:=gX q j) h.qz).trans (h.lit j u hj),AV h.qz hb.size⟩
theorem WG.drew (h:WG w b B q l):WG w.drew b B q l:=h.keep ((AC _ w).drew)
theorem WG.c0 (h:WG w b B q l):w.cell? (gX b 0)=some (.slice (gY q 0) l.length l.length):=h.bx.bx.cell 0 _ rfl
theorem WG.olds (h:WG w b B q l):∀b,some (⟨q,0,none⟩:Addr)=some b->∀j u,(AO l)[j]? = some u->w.cell? (b.add j)=some u:=λb hb j u hj=>by
 injection hb with hb;subst hb;rw[DF,BL];exact h.lit j u hj
theorem WG.put (h:WG w b B q l){p}(hpos:0<p.length){w8 v8}(hown:w8.ownsRow w.heap.size 5 1 v8 (l.length+p.length) (AO l++AO p))(hg:w.grownBy w8 none):
 ∃g cap,v8 = .slice (gY g 0) (l.length+p.length) cap/\w8.cell? (gX b 0)=some (.slice (gY q 0) l.length l.length)/\w8.frozen? ⟨b,0,none⟩=false/\WB (w8.setCell (gX b 0) (.slice (gY g 0) (l.length+p.length) cap)) b B (gY g 0) cap (l++p)/\Wz b B w (w8.setCell (gX b 0) (.slice (gY g 0) (l.length+p.length) cap)):=by
 obtain⟨g,cap,rfl,_,_⟩:=hown.form gd;have G:Below w.heap.size w w8:=⟨hg.os,hg.tape,hg.output,hg.size,λk hk=>hg.block k hk gj⟩;have bx:=h.bx.keep G;have e1:(l++p).length=l.length+p.length:=AR;have I:=h.le;have:=hg.size;refine⟨g,cap,rfl,bx.bx.cell 0 _ rfl,bx.bx.free 0 gj,⟨?_,gt,?_⟩,(Wz.of G).set 0 _⟩
 .rw[e1];exact bx.set (j:=0) _ rfl
 rw[e1,CH];exact Ge (B4 hown I) bx gm 0 _
end
def Jc (w:World) (l:List En) (e:Ending) (w':World):Prop:=
 Below w.heap.size w w'/\((BR l=0/\∃v,e = .returned (.tuple #[v,io 0])/\w'.ownsRow w.heap.size 5 1 v (Bq l).length (AO (Bq l))) \/
  (BR l≠0/\e = .returned (.tuple #[ir,io (BR l:Int)])))
theorem LK {l}(h:64<l.length):BR l=4:=by unfold BR;rw[AJ h]
theorem IS {l}(h:¬ 64<l.length)(h2:DW [] l=false):BR l=1:=by unfold BR;rw[AE h,AE (by rw[h2];decide)]
theorem Oy {l}(h:¬ 64<l.length)(h2:DW [] l=true):BR l=0:=by unfold BR;rw[AE h,AJ h2]
theorem Ht (l:List El)(k):(l.map El.p).getD k default=(l.getD k default).p:=by
 rw[BW,BW,DY];cases l[k]? <;> rfl
def dT (most:Nat) (l:List UInt8) (bad:Bool):JU:=if most<(Ai l bad).1 then (0,(Ai l bad).2.1,true) else Ai l bad
theorem GF (most l bad):(dT most l bad).1<=most:=by
 unfold dT;split
 .exact AU _
 omega
def ceZ:Ce:=⟨0,0,ByteArray.empty⟩
abbrev MCe:=Ce×List UInt8×Bool
def DN (k:UInt8) (l:List UInt8) (bad:Bool):MCe:=
 if k.toNat=1 then (if (Var.get l).2.2≠0\/bad=true then (ceZ,l,true) else (⟨1,Int64.ofInt (Dz (Var.get l).1),ByteArray.empty⟩,l.drop (Var.get l).2.1,false))
 else if k.toNat=2 then (⟨k,Int64.ofNat (dT 1 l bad).1,ByteArray.empty⟩,(dT 1 l bad).2)
 else (⟨k,0,(C7 l bad).1⟩,(C7 l bad).2)
abbrev MSt:=St×List UInt8×Bool
def IT (rows:Int64) (a:Nat) (h:Bool) (k:UInt8) (l:List UInt8) (bad:Bool):MSt:=
 if h=true then (⟨rows,Int64.ofNat a,true,true,(DN k l bad).1,(DN k (DN k l bad).2.1 (DN k l bad).2.2).1⟩,(DN k (DN k l bad).2.1 (DN k l bad).2.2).2)
 else (⟨rows,Int64.ofNat a,true,false,(DN k l bad).1,ceZ⟩,(DN k l bad).2)
def IU (rows:Int64) (a f:Nat) (l:List UInt8) (bad:Bool):MSt:=
 if f=0 then (⟨rows,Int64.ofNat a,false,false,ceZ,ceZ⟩,l,bad)
 else IT rows a (decide (f=3)) (UInt8.ofNat (dT 3 l bad).1) (dT 3 l bad).2.1 (dT 3 l bad).2.2
def EG (rows:Int64) (l:List UInt8) (bad:Bool):MSt:=
 IU rows (dT 256 l bad).1 (dT 3 (dT 256 l bad).2.1 (dT 256 l bad).2.2).1 (dT 3 (dT 256 l bad).2.1 (dT 256 l bad).2.2).2.1 (dT 3 (dT 256 l bad).2.1 (dT 256 l bad).2.2).2.2
def E5 (rows:Int64):Nat->List UInt8->Bool->List St->List St×List UInt8×Bool
 | 0,l,bad,acc=>(acc,l,bad)
 | n+1,l,bad,acc=>if bad=true then (acc,l,true) else E5 rows n (EG rows l false).2.1 (EG rows l false).2.2 (acc++[(EG rows l false).1])
structure Hd where
 name:ByteArray
 keys:Bool
 seq:UInt64
 rows:Int64
 sch:UInt32
 n:Nat
def Jd (l:List UInt8) (bad:Bool):Hd×List UInt8×Bool:=
 let a:=C7 l bad
 let b:=dT 1 a.2.1 a.2.2
 let c:=Ai b.2.1 b.2.2
 let d:=dT 256 c.2.1 c.2.2
 let f:=dT 4294967295 d.2.1 d.2.2
 let g:=dT 8 f.2.1 f.2.2
 (⟨a.1,decide (b.1=1),UInt64.ofNat c.1,Int64.ofNat d.1,UInt32.ofNat f.1,g.1⟩,g.2)
abbrev MEn:=En×List UInt8×Bool
def EH (l:List UInt8) (bad:Bool):MEn:=
 let h:=Jd l bad
 let s:=E5 h.1.rows h.1.n h.2.1 h.2.2 []
 (⟨h.1.name,h.1.keys,h.1.seq,h.1.rows,h.1.sch,s.1⟩,s.2)
def Ej:Nat->List UInt8->Bool->List En->List En×List UInt8×Bool
 | 0,l,bad,acc=>(acc,l,bad)
 | n+1,l,bad,acc=>if bad=true then (acc,l,true) else Ej n (EH l false).2.1 (EH l false).2.2 (acc++[(EH l false).1])
theorem V1 {rows n l bad acc}(h:n=0\/bad=true):E5 rows n l bad acc=(acc,l,bad):=by
 cases n with
 | zero=>rfl
 | succ n=>
   have hb:bad=true:=by simpa using h
   rw[E5,AJ hb,hb]
theorem P0 (rows n l acc):E5 rows (n+1) l false acc=E5 rows n (EG rows l false).2.1 (EG rows l false).2.2 (acc++[(EG rows l false).1]):=by
 rw[E5,AE gj]
theorem P3 {n l bad acc}(h:n=0\/bad=true):Ej n l bad acc=(acc,l,bad):=by
 cases n with
 | zero=>rfl
 | succ n=>
   have hb:bad=true:=by simpa using h
   rw[Ej,AJ hb,hb]
theorem P4 (n l acc):Ej (n+1) l false acc=Ej n (EH l false).2.1 (EH l false).2.2 (acc++[(EH l false).1]):=by
 rw[Ej,AE gj]
theorem Je {n}(h:n<=4294967296):(Int64.ofNat n).toInt=(n:Int):=by
 rw[Int64.toInt_ofNat_of_lt gd]
def ents (t:List UInt8):List En×List UInt8×Bool:=Ej (dT 64 (t.drop 3) false).1 (dT 64 (t.drop 3) false).2.1 (dT 64 (t.drop 3) false).2.2 []
def opE (b:List UInt8):Nat×List En:=
 match BT b with
 | none=>(101,[])
 | some t=>if t.length<3\/t.take 3≠mf1 then (100,[]) else if (ents t).2.2=true then (102,[]) else if BR (ents t).1=0/\Bq (ents t).1=b then (0,(ents t).1) else (102,[])
theorem V2 {b}(h:BT b=none):opE b=(101,[]):=by unfold opE;rw[h]
theorem P5 {b t}(h:BT b=some t)(h2:t.length<3\/t.take 3≠mf1):opE b=(100,[]):=by unfold opE;rw[h];exact AJ h2
theorem V3 {b t}(h:BT b=some t)(h2:¬(t.length<3\/t.take 3≠mf1))(h3:(ents t).2.2=true):opE b=(102,[]):=by unfold opE;rw[h];exact(AE h2).trans (AJ h3)
theorem P6 {b t}(h:BT b=some t)(h2:¬(t.length<3\/t.take 3≠mf1))(h3:¬(ents t).2.2=true)(h4:¬(BR (ents t).1=0/\Bq (ents t).1=b)):opE b=(102,[]):=by unfold opE;rw[h];exact(AE h2).trans ((AE h3).trans (AE h4))
theorem P7 {b t}(h:BT b=some t)(h2:¬(t.length<3\/t.take 3≠mf1))(h3:¬(ents t).2.2=true)(h4:BR (ents t).1=0/\Bq (ents t).1=b):opE b=(0,(ents t).1):=by unfold opE;rw[h];exact(AE h2).trans ((AE h3).trans (AJ h4))
structure GK0 (w0:World) (B0 br:Nat) (P:Nat->Prop) (zs:List Value) (A:Option Addr) (c:Nat) (l:List UInt8) (e:Bool) (wr:World):Prop where
 rd:dS wr br (λk=>P k/\k<B0) A c l e
 rb:dH wr B0 zs
 oth:Oth br w0 wr
 o3:br<B0
 o4:w0.heap.size<=B0
 nP:¬P br
structure GK (w0:World) (B0 br bs:Nat) (P:Nat->Prop) (cs zs:List Value) (A:Option Addr) (c:Nat) (l:List UInt8) (e:Bool) (wr:World):Prop where
 g0:GK0 w0 B0 br P zs A c l e wr
 bx:dH wr bs cs
 o2:B0<bs
section
variable {w0 wr w7:World} {B0 br bs c c2:Nat} {P:Nat->Prop} {cs zs:List Value} {A A2:Option Addr} {l l2:List UInt8} {e e2:Bool}
theorem LM {w}(h:dS w br P A c l e)(zs t):GK0 w w.heap.size br P zs.toList A c l e (w.alloc (.cells zs t)):=by
 have hb:=hI w (.cells zs t);exact⟨(h.imp (Q:=λk=>P k/\k<w.heap.size) (λk hk hl=>⟨hk,hl⟩) (λq=>h.nP q.1)).keep hb,AP w zs t,.of hb,h.z,AD _,h.nP⟩
theorem GK0.go (h:GK0 w0 B0 br P zs A c l e wr)(hr:dS w7 br (λk=>P k/\k<B0) A2 c2 l2 e2)(ho:Oth br wr w7):GK0 w0 B0 br P zs A2 c2 l2 e2 w7:=
 ⟨hr,h.rb.oth ho (by have:=h.o3;omega),h.oth.trans ho,h.o3,h.o4,h.nP⟩
theorem GK0.new (h:GK0 w0 B0 br P zs A c l e wr)(cs t):GK w0 B0 br wr.heap.size P cs.toList zs A c l e (wr.alloc (.cells cs t)):=by
 have hb:=hI wr (.cells cs t);exact⟨h.go (h.rd.keep hb) (.of hb),AP wr cs t,h.rb.z⟩
theorem GK0.ends (h:GK0 w0 B0 br P zs A c l e wr):∃A c,dS wr br P A c l e:=⟨A,c,h.rd.imp (λk hk _=>hk.1) h.nP⟩
theorem GK0.res (h:GK0 w0 B0 br P zs A c l e wr)(j x){u}(hj:zs[j]? = some u):GK0 w0 B0 br P (zs.set j x) A c l e (wr.setCell (gX B0 j) x):=
 ⟨h.rd.elsewhere (p:=gX B0 j) (Cy h.o3) (λq=>Nat.lt_irrefl _ q.2) x,h.rb.set (j:=j) x hj,h.oth.setNew (p:=gX B0 j) h.o4 x,h.o3,h.o4,h.nP⟩
theorem GK.nb1 (h:GK w0 B0 br bs P cs zs A c l e wr):bs≠B0:=by have:=h.o2;omega
theorem GK.nb2 (h:GK w0 B0 br bs P cs zs A c l e wr):B0≠bs:=by have:=h.o2;omega
theorem GK.nb3 (h:GK w0 B0 br bs P cs zs A c l e wr):br≠bs:=by have:=h.o2;have:=h.g0.o3;omega
theorem GK.nb4 (h:GK w0 B0 br bs P cs zs A c l e wr):bs≠br:=by have:=h.o2;have:=h.g0.o3;omega
theorem GK.nb5 (h:GK w0 B0 br bs P cs zs A c l e wr):br≠B0:=by have:=h.g0.o3;omega
theorem GK.go (h:GK w0 B0 br bs P cs zs A c l e wr)(hr:dS w7 br (λk=>P k/\k<B0) A2 c2 l2 e2)(ho:Oth br wr w7):GK w0 B0 br bs P cs zs A2 c2 l2 e2 w7:=
 ⟨h.g0.go hr ho,h.bx.oth ho h.nb4,h.o2⟩
theorem GK.drew (h:GK w0 B0 br bs P cs zs A c l e wr):GK w0 B0 br bs P cs zs A c l e wr.drew:=h.go h.g0.rd.drew (Oth.refl br wr).drew
theorem GK.why (h:GK w0 B0 br bs P cs zs A c l e wr)(e2):GK w0 B0 br bs P cs zs A c l e2 (wr.setCell (gX br 1) (.bool e2)):=h.go (h.g0.rd.set1 e2) ((Oth.refl br wr).set 1 _)
theorem GK.cut (h:GK w0 B0 br bs P cs zs A c l e wr)(hr:RdP wr (λk=>P k/\k<B0) A2 l2.length c2 l2):GK w0 B0 br bs P cs zs A2 c2 l2 e (wr.setCell (gX br 0) (.slice A2 l2.length c2)):=h.go (h.g0.rd.set0 hr) ((Oth.refl br wr).set 0 _)
theorem GK.put (h:GK w0 B0 br bs P cs zs A c l e wr)(j x){u}(hj:cs[j]? = some u):GK w0 B0 br bs P (cs.set j x) zs A c l e (wr.setCell (gX bs j) x):=
 ⟨⟨h.g0.rd.elsewhere (p:=gX bs j) h.nb3 (λq=>by have:bs<B0:=q.2;have:=h.o2;omega) x,h.g0.rb.else (p:=gX bs j) h.nb1 x,h.g0.oth.setNew (p:=gX bs j) (by show w0.heap.size<=bs;have:=h.g0.o4;have:=h.o2;omega) x,h.g0.o3,h.g0.o4,h.g0.nP⟩,h.bx.set (j:=j) x hj,h.o2⟩
theorem GK.putcut (h:GK w0 B0 br bs P cs zs A c l e wr)(j x){u}(hj:cs[j]? = some u)(hr:RdP wr (λk=>P k/\k<B0) A2 l2.length c2 l2):GK w0 B0 br bs P (cs.set j x) zs A2 c2 l2 e ((wr.setCell (gX bs j) x).setCell (gX br 0) (.slice A2 l2.length c2)):=by
 refine(h.put j x hj).cut (hr.keep gj λp hp _=>(CL (p:=gX bs j) (q:=p) (λr=>?_) x).1);have h2:p.block=bs:=r;have h3:p.block<B0:=hp.2;rw[h2]at h3;have:=h.o2;omega
theorem GK.res (h:GK w0 B0 br bs P cs zs A c l e wr)(j x){u}(hj:zs[j]? = some u):GK w0 B0 br bs P cs (zs.set j x) A c l e (wr.setCell (gX B0 j) x):=
 ⟨h.g0.res j x hj,h.bx.else (p:=gX B0 j) h.nb2 x,h.o2⟩
end
def V4 (w:World) (b:Nat) (P:Nat->Prop) (r:JU) (e:Ending) (w':World):Prop:=
 e = .returned (io (r.1:Int))/\(∃A c,dS w' b P A c r.2.1 r.2.2)/\Oth b w w'
theorem V5 {g}(h:g<18446744073709551616): -9223372036854775808<=Dz g/\Dz g<9223372036854775808:=by
 unfold Dz;split<;>omega
def ceV (x:Ce):Array Value:=#[ip x.kind.toNat,io x.n.toInt,.string x.s]
theorem V6 (w b x y z)(c0:w.cell? (gX b 0)=some x)(c1:w.cell? (gX b 1)=some y)(c2:w.cell? (gX b 2)=some z):(loadVar 199 ⟨b,0,none⟩).run prog w = .ok (.agg #[x,y,z]) w:=by
 go_simp
theorem IV {fn p}(h:fn.results=#[.cell p 199])(tmps w){b x y z}(hp:tmps.getD p undef = iq b 0)(hb:dH w b [x,y,z]):
 (results fn tmps).run prog w = .ok (.agg #[x,y,z]) w:=by
 rw[IJ h,hp];have:=V6 w b _ _ _ (hb.cell 0 _ rfl) (hb.cell 1 _ rfl) (hb.cell 2 _ rfl);simp[asAddr,Result.andThen,this]
def P8 (w:World) (b:Nat) (P:Nat->Prop) (r:MCe) (e:Ending) (w':World):Prop:=
 e = .returned (.agg (ceV r.1))/\(∃A c,dS w' b P A c r.2.1 r.2.2)/\Oth b w w'
theorem IW {w0 wr B0 br P zs A c l e r}(h:GK0 w0 B0 br P zs A c l e wr){k n s}(hr:r=(⟨k,n,s⟩,l,e)):P8 w0 br P r (.returned (.agg #[ip k.toNat,io n.toInt,.string s])) wr:=by
 subst hr;exact⟨rfl,h.ends,h.oth⟩
def stA (s:St):Array Value:=#[io s.rows.toInt,io s.nulls.toInt,.bool s.som,.bool s.high,ip s.mn.kind.toNat,io s.mn.n.toInt,.string s.mn.s,ip s.mx.kind.toNat,io s.mx.n.toInt,.string s.mx.s]
theorem V7 (w b v0 v1 v2 v3 v4 v5 v6 v7 v8 v9)(c0:w.cell? (gX b 0)=some v0)(c1:w.cell? (gX b 1)=some v1)(c2:w.cell? (gX b 2)=some v2)(c3:w.cell? (gX b 3)=some v3)(c4:w.cell? (gX b 4)=some v4)(c5:w.cell? (gX b 5)=some v5)(c6:w.cell? (gX b 6)=some v6)(c7:w.cell? (gX b 7)=some v7)(c8:w.cell? (gX b 8)=some v8)(c9:w.cell? (gX b 9)=some v9):
 (loadVar 201 ⟨b,0,none⟩).run prog w = .ok (.agg #[v0,v1,v2,v3,v4,v5,v6,v7,v8,v9]) w:=by
 go_simp
theorem LN {fn p}(h:fn.results=#[.cell p 201])(tmps w){b v0 v1 v2 v3 v4 v5 v6 v7 v8 v9}(hp:tmps.getD p undef = iq b 0)(hb:dH w b [v0,v1,v2,v3,v4,v5,v6,v7,v8,v9]):
 (results fn tmps).run prog w = .ok (.agg #[v0,v1,v2,v3,v4,v5,v6,v7,v8,v9]) w:=by
 rw[IJ h,hp];have:=V7 w b _ _ _ _ _ _ _ _ _ _ (hb.cell 0 _ rfl) (hb.cell 1 _ rfl) (hb.cell 2 _ rfl) (hb.cell 3 _ rfl) (hb.cell 4 _ rfl) (hb.cell 5 _ rfl) (hb.cell 6 _ rfl) (hb.cell 7 _ rfl) (hb.cell 8 _ rfl) (hb.cell 9 _ rfl);simp[asAddr,Result.andThen,this]
def LO (w:World) (b:Nat) (P:Nat->Prop) (r:MSt) (e:Ending) (w':World):Prop:=
 e = .returned (.agg (stA r.1))/\(∃A c,dS w' b P A c r.2.1 r.2.2)/\Oth b w w'
theorem LP (s){w0 wr B0 br P zs A c l e r a}(h:GK0 w0 B0 br P zs A c l e wr)(hr:r=(s,l,e))(ha:stA s=a):LO w0 br P r (.returned (.agg a)) wr:=by
 subst hr ha;exact⟨rfl,h.ends,h.oth⟩
theorem V9 {l l1 l2 l3 l4 l5 l6 l7 bad b1 b2 b3 b4 b5 b6 b7 nm ks sq rn sc n sts}(ha:C7 l bad=(nm,l1,b1))(hb:dT 1 l1 b1=(ks,l2,b2))(hc:Ai l2 b2=(sq,l3,b3))(hd:dT 256 l3 b3=(rn,l4,b4))(hf:dT 4294967295 l4 b4=(sc,l5,b5))(hg:dT 8 l5 b5=(n,l6,b6))(hq:E5 (Int64.ofNat rn) n l6 b6 []=(sts,l7,b7)):
 EH l bad=(⟨nm,decide (ks=1),UInt64.ofNat sq,Int64.ofNat rn,UInt32.ofNat sc,sts⟩,l7,b7):=by
 simp only[EH,Jd,ha,hb,hc,hd,hf,hg,hq]
def elA (x:En) (F:Option Addr) (fc:Nat):Array Value:=(eNV x F fc)
theorem VA (w b v0 v1 v2 v3 v4 v5)(c0:w.cell? (gX b 0)=some v0)(c1:w.cell? (gX b 1)=some v1)(c2:w.cell? (gX b 2)=some v2)(c3:w.cell? (gX b 3)=some v3)(c4:w.cell? (gX b 4)=some v4)(c5:w.cell? (gX b 5)=some v5):
 (loadVar 97 ⟨b,0,none⟩).run prog w = .ok (.agg #[v0,v1,v2,v3,v4,v5]) w:=by
 go_simp
theorem LQ {fn p}(h:fn.results=#[.cell p 97])(tmps w){b v0 v1 v2 v3 v4 v5}(hp:tmps.getD p undef = iq b 0)(hb:dH w b [v0,v1,v2,v3,v4,v5]):
 (results fn tmps).run prog w = .ok (.agg #[v0,v1,v2,v3,v4,v5]) w:=by
 rw[IJ h,hp];have:=VA w b _ _ _ _ _ _ (hb.cell 0 _ rfl) (hb.cell 1 _ rfl) (hb.cell 2 _ rfl) (hb.cell 3 _ rfl) (hb.cell 4 _ rfl) (hb.cell 5 _ rfl);simp[asAddr,Result.andThen,this]
structure GE (w0:World) (B0 br bs:Nat) (P:Nat->Prop) (nm:ByteArray) (kb:Bool) (sq rn sc:Nat) (zs:List Value) (A:Option Addr) (c:Nat) (l:List UInt8) (e:Bool) (fA:Option Addr) (fc:Nat) (ms:List St) (wr:World):Prop where
 gk:GK w0 B0 br bs P [.string nm,.bool kb,il sq,io rn,im sc,.slice fA ms.length fc] zs A c l e wr
 own:wr.ownsRow (bs+1) 201 10 (.slice fA ms.length fc) ms.length (BH ms)
section
variable {w0 wr w7:World} {B0 br bs c fc sq rn sc:Nat} {P:Nat->Prop} {e kb:Bool} {nm:ByteArray} {zs:List Value} {A fA:Option Addr} {l:List UInt8} {ms:List St}
theorem GE.go (h:GE w0 B0 br bs P nm kb sq rn sc zs A c l e fA fc ms wr){A2 c2 l2 e2}(hr:dS w7 br (λk=>P k/\k<B0) A2 c2 l2 e2)(ho:Oth br wr w7):GE w0 B0 br bs P nm kb sq rn sc zs A2 c2 l2 e2 fA fc ms w7:=
 ⟨h.gk.go hr ho,FT h.own ho (by have:=h.gk.o2;have:=h.gk.g0.o3;omega)⟩
theorem GE.drew (h:GE w0 B0 br bs P nm kb sq rn sc zs A c l e fA fc ms wr):GE w0 B0 br bs P nm kb sq rn sc zs A c l e fA fc ms wr.drew:=h.go h.gk.g0.rd.drew (Oth.refl br wr).drew
theorem GE.res (h:GE w0 B0 br bs P nm kb sq rn sc zs A c l e fA fc ms wr)(j x){u}(hj:zs[j]? = some u):GE w0 B0 br bs P nm kb sq rn sc (zs.set j x) A c l e fA fc ms (wr.setCell (gX B0 j) x):=
 ⟨h.gk.res j x hj,B6 h.own (a:=gX B0 j) (by show B0<bs+1;have:=h.gk.o2;omega) x⟩
theorem GE.lit (h:GE w0 B0 br bs P nm kb sq rn sc zs A c l e fA fc ms wr)(s):
 (wr.alloc (.cells (stA s) 201)).ownsRow (bs+1) 201 10 (.slice fA ms.length fc) ms.length (BH ms)/\∀j u,(stV s)[j]? = some u->(wr.alloc (.cells (stA s) 201)).cell? ((⟨wr.heap.size,0,none⟩:Addr).add j)=some u:=by
 refine⟨h.own.alloc _,λj u hu=>?_⟩;have:=(AP wr (stA s) 201).cell j u hu;rw[DF,BL];exact this
theorem GE.grown (h:GE w0 B0 br bs P nm kb sq rn sc zs A c l e fA fc ms wr){s w8 g cap}(hown:w8.ownsRow (bs+1) 201 10 (.slice (gY g 0) (ms.length+1) cap) (ms.length+1) (BH ms++stV s))(hg:(wr.alloc (.cells (stA s) 201)).grownBy w8 (Value.slice fA ms.length fc).ownBlock):
 w8.cell? (gX bs 5)=some (.slice fA ms.length fc)/\w8.frozen? ⟨bs,5,none⟩=false/\w8.cell? (gX bs 3)=some (io rn) /\
  GE w0 B0 br bs P nm kb sq rn sc zs A c l e (gY g 0) cap (ms++[s]) (w8.setCell (gX bs 5) (.slice (gY g 0) (ms.length+1) cap)):=by
 have:=h.gk.bx.z;have h2:=h.gk.o2;have h3:=h.gk.g0.o3;have hb:Below (bs+1) wr w8:=Au ((AC (bs+1) wr).alloc gd (.cells (stA s) 201)) (AD _) (h.own.alloc _) hg gt;have bx:=h.gk.bx.keep hb (E9 bs);have e1:(ms++[s]).length=ms.length+1:=gj;have e2:BH ms++stV s=BH (ms++[s]):=by simp[BH]
 have hk:GK w0 B0 br bs P [.string nm,.bool kb,il sq,io rn,im sc,.slice fA ms.length fc] zs A c l e w8:=by
  refine⟨⟨h.gk.g0.rd.keepB hb gd (λk hk _=>by have:k<B0:=hk.2;omega),h.gk.g0.rb.keep hb gd,?_,h3,h.gk.g0.o4,h.gk.g0.nP⟩,bx,h2⟩;have ho:=h.gk.g0.oth;exact⟨hb.os.trans ho.os,hb.tape.trans ho.tape,hb.output.trans ho.output,AS ho.size hb.size,λk hk G=>(hb.block k (by have:=h.gk.g0.o4;omega)).trans (ho.block k hk G)⟩
 refine⟨bx.cell 5 _ rfl,bx.free 5 gj,bx.cell 3 _ rfl,?_,?_⟩
 .rw[e1];exact hk.put 5 _ rfl
 rw[e1,<-e2];exact B6 hown (a:=gX bs 5) (E9 _) _
end
def GER (w0:World) (B0 br bs:Nat) (P:Nat->Prop) (nm:ByteArray) (kb:Bool) (sq rn sc:Nat) (zs:List Value) (Q:List St×List UInt8×Bool) (nv:Value) (wr:World):Prop:=
 ∃(m:Nat) (A:Option Addr) (c:Nat) (l:List UInt8) (e:Bool) (fA:Option Addr) (fc:Nat) (ms:List St),nv = io m/\m+ms.length<=8/\ga (E5 (Int64.ofNat rn) m l e ms=Q)/\GE w0 B0 br bs P nm kb sq rn sc zs A c l e fA fc ms wr
def PB (w:World) (b:Nat) (P:Nat->Prop) (r:MEn) (e:Ending) (w':World):Prop:=
 ∃F fc,e = .returned (.agg (elA r.1 F fc))/\r.1.stats.length<=8/\w'.ownsRow w.heap.size 201 10 (.slice F r.1.stats.length fc) r.1.stats.length (BH r.1.stats)/\(∃A c,dS w' b P A c r.2.1 r.2.2)/\Oth b w w'
theorem PC {w0 wr B0 br bs c fc sq rn sc P e kb nm zs A fA l ms r}(h:GE w0 B0 br bs P nm kb sq rn sc zs A c l e fA fc ms wr)(h8:ms.length<=8)(hsq:sq<18446744073709551616)(hrn:rn<=256)(hsc:sc<4294967296)(hr:r=(⟨nm,kb,UInt64.ofNat sq,Int64.ofNat rn,UInt32.ofNat sc,ms⟩,l,e)):PB w0 br P r (.returned (.agg #[.string nm,.bool kb,il sq,io rn,im sc,.slice fA ms.length fc])) wr:=by
 subst hr;refine⟨fA,fc,?_,h8,B4 h.own (by have:=h.gk.o2;have:=h.gk.g0.o4;omega),h.gk.g0.ends,h.gk.g0.oth⟩;have a1:(UInt64.ofNat sq).toNat=sq:=by rw[UInt64.toNat_ofNat'];omega
 have a2:(UInt32.ofNat sc).toNat=sc:=by rw[UInt32.toNat_ofNat'];omega
 simp only[elA,eNV,a1,a2,Je (show rn<=4294967296 by omega)]
