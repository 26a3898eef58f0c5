/- For CatalogEntries. -/
import Derived.Test.YtpfofefecamkfaaGreatDoorGIt
import Derived.Test.YtpfofefecamkfaaGreatDoorZ2
namespace Go.Proofs.YtpfofefecamkfaaGreatDoor
open Go.RowKit Proofs.Tryz
set_option maxRecDepth 100000
set_option maxHeartbeats 16000000
set_option linter.all false
structure dQ (w:World) (B:Nat) (A:Option Addr) (c:Nat) (l:List El):Prop where
 own:w.ownsRow B 97 6 (.slice A l.length c) l.length (Ax l)
 ins:∀x∈l,w.ownsRow B 201 10 (.slice x.A x.p.stats.length x.c) x.p.stats.length (BH x.p.stats)
section
variable {w w' w8:World} {B b c:Nat} {A:Option Addr} {l:List El}
theorem dQ.nil (w B):dQ w B none 0 []:=⟨Av _ _ _ _,gj⟩
theorem dQ.oth (h:dQ w B A c l)(ho:Oth b w w')(hb:b<B):dQ w' B A c l:=⟨FT h.own ho hb,λx hx=>FT (h.ins x hx) ho hb⟩
theorem dQ.keep (h:dQ w B A c l)(hb:Below w.heap.size w w'):dQ w' B A c l:=⟨Ag h.own hb,λx hx=>Ag (h.ins x hx) hb⟩
theorem dQ.base (h:dQ w B A c l){B2}(hb:B2<=B):dQ w B2 A c l:=⟨B4 h.own hb,λx hx=>B4 (h.ins x hx) hb⟩
theorem dQ.rd (h:dQ w B A c l):EnR w w.heap.size A c l:=⟨Ay h.own,λx hx=>Ay (h.ins x hx)⟩
theorem dQ.snoc (h:dQ w B A c l){x}(hx:w.ownsRow B 201 10 (.slice x.A x.p.stats.length x.c) x.p.stats.length (BH x.p.stats)){v}(hown:w8.ownsRow B 97 6 v (l.length+1) (Ax l++elV x))(hg:w.grownBy w8 (Value.slice A l.length c).ownBlock):
 ∃g cap,v = .slice (gY g 0) (l++[x]).length cap/\dQ w8 B (gY g 0) cap (l++[x]):=by
 obtain⟨g,cap,rfl,_,_⟩:=hown.form gd;have e1:(l++[x]).length=l.length+1:=gj;have e2:Ax (l++[x])=Ax l++elV x:=by simp[Ax]
 refine⟨g,cap,by rw[e1],by rw[e1,e2];exact hown,λy hy=>?_⟩;rcases List.mem_append.1 hy with hy|hy
 .exact DJ (h.ins y hy) h.own hg gm
 rw[BS.1 hy];exact DJ hx h.own hg gm
end
structure GOE2 (w0:World) (br:Nat) (A:Option Addr) (c:Nat) (l:List UInt8) (e:Bool) (lA:Option Addr) (lc:Nat) (ls:List El) (wr:World):Prop where
 rd:dS wr br (λk=>k<br) A c l e
 own:dQ wr (br+1) lA lc ls
 bel:Below w0.heap.size w0 wr
 o1:w0.heap.size<=br
section
variable {w0 wr w7 w8:World} {br c lc c2:Nat} {e e2:Bool} {A A2 lA:Option Addr} {l l2:List UInt8} {ls:List El}
theorem GOE2.go (h:GOE2 w0 br A c l e lA lc ls wr)(hr:dS w7 br (λk=>k<br) A2 c2 l2 e2)(ho:Oth br wr w7):GOE2 w0 br A2 c2 l2 e2 lA lc ls w7:=
 ⟨hr,h.own.oth ho (E9 _),h.bel.trans ((ho.below (Ad h.rd.z)).mono h.o1),h.o1⟩
theorem GOE2.keep (h:GOE2 w0 br A c l e lA lc ls wr)(hb:Below wr.heap.size wr w7):GOE2 w0 br A c l e lA lc ls w7:=h.go (h.rd.keep hb) (.of hb)
theorem GOE2.snoc (h:GOE2 w0 br A c l e lA lc ls wr){x}(hx:wr.ownsRow (br+1) 201 10 (.slice x.A x.p.stats.length x.c) x.p.stats.length (BH x.p.stats)){v}(hown:w8.ownsRow (br+1) 97 6 v (ls.length+1) (Ax ls++elV x))(hg:wr.grownBy w8 (Value.slice lA ls.length lc).ownBlock):
 ∃g cap,v = .slice (gY g 0) (ls++[x]).length cap/\GOE2 w0 br A c l e (gY g 0) cap (ls++[x]) w8:=by
 obtain⟨g,cap,hv,hO⟩:=h.own.snoc hx hown hg;have:=h.rd.z;have h1:=h.o1;have G:Below (br+1) wr w8:=Au (AC _ _) (AD _) h.own.own hg gd;exact⟨g,cap,hv,h.rd.keepB G (E9 _) (λk hk _=>by have:k<br:=hk;omega),hO,h.bel.trans (G.mono gd),h1⟩
end
def PK (w:World) (b:List UInt8) (e:Ending) (w':World):Prop:=
 Below w.heap.size w w'/\∃lA lc,∃ls:List El,e = .returned (.tuple #[.slice lA ls.length lc,io ((opE b).1:Int)])/\ls.map El.p=(opE b).2/\ls.length<=64/\dQ w' w.heap.size lA lc ls
theorem Gm {w w' b er}(h:opE b=(er,[]))(hb:Below w.heap.size w w'):PK w b (.returned (.tuple #[ir,io er])) w':=
 ⟨hb,none,0,[],by rw[h];rfl,by rw[h];rfl,gj,dQ.nil _ _⟩
theorem VL {t:List UInt8}(h:t.take 3≠mf1):((⟨(t.take 3).toArray⟩:ByteArray).toList==[77,70,49])=false:=by
 rw[EM,AQ];intro q;exact h (by simpa [mf1]using q)
def GOR (w0:World) (br:Nat) (Q:List En×List UInt8×Bool) (nv lv:Value) (wr:World):Prop:=
 ∃(m:Nat) (A:Option Addr) (c:Nat) (l:List UInt8) (e:Bool) (lA:Option Addr) (lc:Nat) (ls:List El),nv = io m/\lv = .slice lA ls.length lc/\m+ls.length<=64/\ga (Ej m l e (ls.map El.p)=Q)/\GOE2 w0 br A c l e lA lc ls wr
section
open Go.ChangeShapes Go.WideShapes Go.ChangeAt Go.RowKit Go.Deep Go.Joins
section
variable {H:Type} {enc:TypeId×Value->H} {w:World} {base:Nat} {spare:Nat->Bool} {held:Bool} {fuel:Nat}
structure Ll where
 l:List El
 A:Option Addr
 c:Nat
instance:Inhabited Ll:=⟨⟨[],none,0⟩⟩
def llV (x:Ll):List Value:=[.slice x.A x.l.length x.c]
theorem PL (x):(llV x).length=1:=rfl
def Fe (l:List Ll):List Value:=l.flatMap llV
end
end
def Ck (out:List En) (x:En):List En:=if Ca (out.map En.name) x.name=true then out else out++[x]
def mg (q:List En):List En:=q.foldl Ck []
def ES (ls:List (List En)):List En:=mg ls.flatten
theorem PM (q x):mg (q++[x])=Ck (mg q) x:=by simp[mg]
theorem VN (out x):(Ck out x).length<=out.length+1:=by
 unfold Ck;split
 .omega
 simp
theorem VO (q:List En):∀acc,(q.foldl Ck acc).length<=acc.length+q.length:=by
 induction q with
 | nil=>simp
 | cons x q ih=>
   intro acc;have:=ih (Ck acc x);have:=VN acc x;rw[List.foldl_cons,Bg];omega
theorem Jf (q):(mg q).length<=q.length:=by
 have:=VO q [];simpa [mg]using this
theorem PN {l:List En}{k}(hk:k<l.length):l.take (k+1)=l.take k++[l.getD k default]:=by
 rw[Cn,BF hk,DV _ _ hk];rfl
theorem PO {l:List (List En)}{k}(hk:k<l.length):(l.take (k+1)).flatten=(l.take k).flatten++l.getD k []:=by
 rw[Cn,BF hk,List.flatten_append,DV _ _ hk];simp
theorem PP (l:List (List En))(k):((l.take k).flatten).length<=l.flatten.length:=by
 conv=>rhs;rw[<-List.take_append_drop k l,List.flatten_append,AR]
 omega
def ET (out:List El):List ByteArray:=(out.map El.p).map En.name
theorem Rd.llA {w B n c A l}(h:Rd w B 1 A n c (Fe l)){i}(hi:i<l.length):∃b off,A=some ⟨b,off,none⟩/\b<B/\∀X,l.getD i default=X->w.cell? (gX b (off+i))=some (.slice X.A X.l.length X.c):=by
 obtain⟨b,off,rfl,hb,hc⟩:=h.el llV 1 PL hi gd;refine⟨b,off,rfl,hb,λX hX=>?_⟩;subst hX;have:=hc 0 _ rfl;rw[Nat.mul_one]at this;exact this
def gB (w:World) (M:List En) (e:Ending) (w':World):Prop:=
 Below w.heap.size w w'/\∃oA oc,∃out:List El,e = .returned (.slice oA out.length oc)/\out.map El.p=M/\EnR w' w'.heap.size oA oc out
theorem VP (w B n c A xs)(hr:Rd w B 10 A n c xs)(h1:∀u∈xs,u.oneCell'=true)(hb:n * 88<=140737488355328)(hB:B<=w.heap.size):
 Calls prog 222 #[.slice A n c] w (GT w 201 10 n xs):=by
 have:=λW=>Lib.run_eql_slice_nil (P:=prog) W 95 201 A n c 0 0 underlying95;cases A with
 | none=>
   obtain⟨rfl,rfl⟩:=hr.none_;go_enter func222,ntmps222;(go_wp2_with fail);go_ret;exact⟨_,rfl,Av _ _ _ _,AC _ _⟩
 | some ad=>
   have I:=Ew w (base:=w.heap.size) 201 10 0 #[] (AD _) gm rfl;have O:=hr.alloc hB (.cells #[] 201);go_enter func222,ntmps222;go_wp2_with (at_builtin;refine Aw _ IR rfl _ _ rfl w.heap.size _ 0 [] rfl I B (some ad) _ c _ rfl O h1 gd gj ?_;intro v2 w2 G T _;simp only[BL,CN]at G;have V:=Au (hI w (.cells #[] 201)) (AD _) I T gj)
   go_ret;exact⟨v2,rfl,G,V⟩
section
variable {w w':World} {mb B c:Nat} {A:Option Addr} {l:List El}
theorem PQ {base sz n e v xs}(h:w.ownsRow base e sz v n xs){es clk}(hm:w.heap[mb]? = some (.map es clk))(hg:w.grownBy w' (some mb)):w'.ownsRow base e sz v n xs:=by
 refine h.kept (row:=some mb) hg ?_;rcases h.2 with ⟨q,_⟩|⟨g,cap,cur,q,_,hc,_⟩
 .rw[q];exact .inl rfl
 refine .inr λr=>?_;rw[q]at r;simp only[Value.ownBlock]at r;injection r with r;subst r;rw[hc]at hm;cases hm
theorem dQ.map (h:dQ w B A c l){es clk}(hm:w.heap[mb]? = some (.map es clk))(hg:w.grownBy w' (some mb)):dQ w' B A c l:=⟨PQ h.own hm hg,λx hx=>PQ (h.ins x hx) hm hg⟩
theorem Met.app {names}(h:Met w mb names){base sz n e v xs}(ho:w.ownsRow base e sz v n xs)(hg:w.grownBy w' v.ownBlock):Met w' mb names:=by
 refine h.grown hg λq=>?_;obtain⟨es,G,hm⟩:=h.isMap;rcases ho.2 with ⟨r,_⟩|⟨g,cap,cur,r,_,hc,_⟩
 .rw[r]at q;cases q
 rw[r]at q;simp only[Value.ownBlock]at q;injection q with q;subst q;rw[hc]at hm;cases hm
end
def VR (w:World) (M:List En) (e:Ending) (w':World):Prop:=
 Below w.heap.size w w'/\∃oA oc,∃out:List El,e = .returned (.slice oA out.length oc)/\out.map El.p=M/\dQ w' w.heap.size oA oc out
instance:Inhabited Fd:=⟨⟨0,ByteArray.empty,0,false⟩⟩
section
variable {l:List Fd} {k:Nat} {f:Fd} (hf:l.getD k default=f)
include hf
end
instance:Inhabited Vl:=⟨.none⟩
instance:Inhabited Sn:=⟨⟨0,0,0,0,0,0,[]⟩⟩
instance:Inhabited Nl:=⟨⟨default,none,0⟩⟩
instance:Inhabited Sl:=⟨⟨0,[],none,0⟩⟩
structure Th where
 bs:List UInt8
 loose:Bool
instance:Inhabited Th:=⟨⟨[],false⟩⟩
abbrev Mp:=List (ByteArray×Th)
def E6 (s:ByteArray) (p:ByteArray×Th):Bool:=p.1.toList==s.toList
def Ar (m:Mp) (s:ByteArray):Option Th:=(m.find? (E6 s)).map (·.2)
def CR (m:Mp) (s:ByteArray):Bool:=(Ar m s).isSome
def CB (m:Mp) (s:ByteArray):Mp:=m.filter λp=>!E6 s p
def Be (m:Mp) (s:ByteArray) (t:Th):Mp:=CB m s++[(s,t)]
def CS (m:Mp):Nat:=m.foldr (λp n=>p.2.bs.length+n) 0
def FJ (m:Mp):Prop:=m.Pairwise λp q=>p.1≠q.1
theorem Ek {s p}:E6 s p=true↔p.1=s:=by
 unfold E6;rw[Ap];exact⟨Gi,λh=>by rw[h]⟩
theorem Ff {m s t}(h:Ar m s=some t):(s,t)∈m:=by
 unfold Ar at h;cases hf:m.find? (E6 s)with
 | none=>rw[hf]at h;cases h
 | some p=>
   rw[hf]at h;have h1:=List.mem_of_find?_eq_some hf;have h2:=Ek.1 (List.find?_some hf);simp only[Option.map_some,Option.some.injEq]at h;obtain⟨a,b⟩:=p;dsimp only at h h2;rw[<-h,<-h2];exact h1
theorem PS {m s}(h:Ar m s=none):∀p∈m,p.1≠s:=λp hp q=>by
 unfold Ar at h;rw[Option.map_eq_none_iff,List.find?_eq_none]at h;exact h p hp (Ek.2 q)
theorem Jg {m s p}:p∈CB m s↔p∈m/\p.1≠s:=by
 unfold CB;rw[List.mem_filter];refine and_congr Iff.rfl ?_;rw[GQ,<-Bool.not_eq_true,Ek]
theorem VT {m}(h:FJ m)(s):FJ (CB m s):=h.filter _
theorem PT {m}(h:FJ m)(s t):FJ (Be m s t):=by
 unfold Be FJ;rw[List.pairwise_append];exact⟨VT h s,gj,λa ha b hb=>by rw[BS.1 hb];exact(Jg.1 ha).2⟩
theorem LS (m s t):Ar (Be m s t) s=some t:=by
 unfold Be Ar;rw[List.find?_append];have:(CB m s).find? (E6 s)=none:=by
  rw[List.find?_eq_none];intro p hp q;exact(Jg.1 hp).2 (Ek.1 q)
 rw[this];simp[E6]
theorem VU {m s r}(h:r≠s):(CB m s).find? (E6 r)=m.find? (E6 r):=by
 induction m with
 | nil=>rfl
 | cons p m ih=>
   unfold CB at ih ⊢;rw[List.filter_cons];cases hk:E6 s p with
   | true=>
     rw[Bool.not_true,AE gj,ih,List.find?_cons];have:E6 r p=false:=by
      apply Bool.eq_false_iff.2;intro q;exact h ((Ek.1 q).symm.trans (Ek.1 hk))
     rw[this]
   | false=>
     rw[Bool.not_false,AJ rfl,List.find?_cons,List.find?_cons,ih]
theorem Jh {m s r t}(h:r≠s):Ar (Be m s t) r=Ar m r:=by
 unfold Be Ar;rw[List.find?_append,VU h];have:([(s,t)]:Mp).find? (E6 r)=none:=by
  rw[List.find?_eq_none];intro p hp q;rw[BS.1 hp]at q;exact h (Ek.1 q).symm
 rw[this,Option.or_none]
theorem VV (m s):(CB m s).length<=m.length:=List.length_filter_le _ _
theorem VW (m s t):(Be m s t).length<=m.length+1:=by
 have:=VV m s;unfold Be;rw[AR,Ea];omega
theorem PU (a b):CS (a++b)=CS a+CS b:=by
 induction a with
 | nil=>simp[CS]
 | cons p a ih=>
   have e1:CS (p::a++b)=p.2.bs.length+CS (a++b):=rfl;have e2:CS (p::a)=p.2.bs.length+CS a:=rfl;rw[e1,e2,ih];omega
theorem VX {m s}(h:Ar m s=none):CB m s=m:=by
 unfold CB;rw[List.filter_eq_self];intro p hp;rw[GQ,<-Bool.not_eq_true,Ek];exact PS h p hp
theorem VY {m}(hd:FJ m){s t}(h:Ar m s=some t):CS (CB m s)+t.bs.length=CS m:=by
 induction m with
 | nil=>cases h
 | cons p m ih=>
   have I:FJ m:=(List.pairwise_cons.1 hd).2;have e2:CS (p::m)=p.2.bs.length+CS m:=rfl;by_cases hk:p.1=s
   .have e1:CB (p::m) s=m:=by
     have:CB (p::m) s=CB m s:=by unfold CB;rw[List.filter_cons,Ek.2 hk];rfl
     rw[this];unfold CB;rw[List.filter_eq_self];intro q hq;rw[GQ,<-Bool.not_eq_true,Ek];intro r;exact(List.pairwise_cons.1 hd).1 q hq (hk.trans r.symm)
    have e3:p.2=t:=by
     have:Ar (p::m) s=some p.2:=by unfold Ar;rw[List.find?_cons,Ek.2 hk];rfl
     rw[h]at this;injection this with this;exact this.symm
    rw[e1,e2,e3];omega
   have G:E6 s p=false:=by apply Bool.eq_false_iff.2;rw[ne_eq,Ek];exact hk
   have e1:CB (p::m) s=p::CB m s:=by unfold CB;rw[List.filter_cons,G];rfl
   have e3:Ar m s=some t:=by
    have:Ar (p::m) s=Ar m s:=by unfold Ar;rw[List.find?_cons,G]
    rw[<-this];exact h
   have:=ih I e3;rw[e1,e2];have e4:CS (p::CB m s)=p.2.bs.length+CS (CB m s):=rfl;rw[e4];omega
structure So where
 quota:Int
 used:Int
 m:Mp
 cell:ByteArray
 fuse:Int
 fault:Int
 dead:Bool
def So.new (q:Int):So:=⟨max 0 q,0,[],⟨#[]⟩,-1,-1,false⟩
def So.change (s:So):So×Nat:=
 if s.fuse=0 then ({ s with dead:=true },120) else ({ s with fuse:=max (s.fuse-1) (-1),fault:=max (s.fault-1) (-1) },if s.fault=0 then 121 else 0)
def So.add (s:So) (nm:ByteArray) (bs:List UInt8):So:= { s with m:=Be s.m nm ⟨bs,true⟩,used:=s.used+bs.length }
def So.put (s:So) (nm:ByteArray) (bs:List UInt8):So×Nat:=
 if s.dead=true then (s,120) else if Aq nm=false then (s,1) else if CR s.m nm=true then (s,3) else if 65536<bs.length then (s,5) else if s.quota-s.used<bs.length then (s,122)
 else if s.change.2=121 then s.change else (s.change.1.add nm bs,s.change.2)
def So.sync (s:So) (nm:ByteArray):So×Nat:=
 if s.dead=true then (s,120) else match Ar s.m nm with
  | none=>(s,2)
  | some t=>if s.change.2=0 then ({ s.change.1 with m:=Be s.change.1.m nm ⟨t.bs,false⟩ },0) else s.change
def So.swap (s:So) (old nw:ByteArray):So×Nat:=
 if s.dead=true then (s,120) else if (s.cell.toList==old.toList)=false then (s,123) else if Aq nw=false then (s,1) else if s.change.2=0 then ({ s.change.1 with cell:=nw },0) else s.change
def So.get (s:So) (nm:ByteArray):List UInt8×Nat:=if s.dead=true then ([],120) else match Ar s.m nm with|none=>([],2)|some t=>(t.bs,0)
structure So.ok (s:So):Prop where
 q0:0<=s.quota
 q1:s.quota<=9223372036854775807
 us:s.used=CS s.m
 uq:s.used<=s.quota
 f0 : -1<=s.fuse
 f1:s.fuse<=9223372036854775807
 g0 : -1<=s.fault
 g1:s.fault<=9223372036854775807
 di:FJ s.m
theorem So.ok.change {s:So}(h:s.ok):s.change.1.ok:=by
 obtain⟨a,b,c,d,e,f,g,i,j⟩:=h;unfold So.change;split
 .exact⟨a,b,c,d,e,f,g,i,j⟩
 exact⟨a,b,c,d,by dsimp only;omega,by dsimp only;omega,by dsimp only;omega,by dsimp only;omega,j⟩
theorem So.change_m (s:So):s.change.1.m=s.m:=by unfold So.change;split<;>rfl
theorem So.change_used (s:So):s.change.1.used=s.used:=by unfold So.change;split<;>rfl
theorem So.change_quota (s:So):s.change.1.quota=s.quota:=by unfold So.change;split<;>rfl
theorem So.ok.add {s:So}(h:s.ok){nm bs}(hn:Ar s.m nm=none)(hq:(bs.length:Int)<=s.quota-s.used):(s.add nm bs).ok:=by
 obtain⟨a,b,c,d,e,f,g,i,j⟩:=h;refine⟨a,b,?_,by show s.used+bs.length<=s.quota;omega,e,f,g,i,PT j nm _⟩;show s.used+bs.length=CS (Be s.m nm ⟨bs,true⟩);unfold Be;rw[VX hn,PU,c];have:CS [(nm,(⟨bs,true⟩:Th))]=bs.length:=by simp[CS]
 rw[this];omega
theorem IX:prog.underlying 104=some (.map 9 131):=underlying104
def elR (v:Value):Option (DataW Value×List MemPlace):=some (.held v,[])
def F1:Value:=.agg #[ir,.bool false]
theorem Ji (w):(zeroValue 131).run prog w = .ok F1 w:=gh
def Fg (s:ByteArray):Lit:=.string s.data.toList
theorem PW {s r}(h:r≠s):Fg r≠Fg s:=by
 intro q;injection q with q;exact h (Gi (by rw[EM,EM];exact q))
theorem IY (s)(hs:s.size<=maxLen):keyOf prog 9 (.string s)=some (Fg s):=Go.WideMaps.keyOf_string_mk underlying9 hs
structure MapR (P:Nat->Prop) (w:World) (mb N:Nat) (m:Mp) (D:DataW Value):Prop where
 own:w.ownsMap prog 9 elR mb N D
 has:∀s,Maps.has D (Fg s)=CR m s
 at_:∀s t,Ar m s=some t->∃A c,D.atKey (Fg s) (.held F1) = .held (.agg #[.slice A t.bs.length c,.bool t.loose])/\RdP w P A t.bs.length c t.bs
 nP:¬P mb
section
variable {P Q:Nat->Prop} {w w':World} {mb N c:Nat} {m:Mp} {D:DataW Value} {A:Option Addr} {bs:List UInt8} {lo:Bool}
theorem MapR.lt (h:MapR P w mb N m D):mb<w.heap.size:=h.own.lt
theorem MapR.move (h:MapR P w mb N m D)(hsz:w.heap.size<=w'.heap.size)(hmb:w'.heap[mb]? = w.heap[mb]?)(hk:∀p:Addr,P p.block->p.block<w.heap.size->w'.cell? p=w.cell? p):MapR P w' mb N m D:=by
 obtain⟨es,c,hb,r⟩:=h.own;refine⟨⟨es,c,hmb.trans hb,r⟩,h.has,λs t ht=>?_,h.nP⟩;obtain⟨A,c,h1,h2⟩:=h.at_ s t ht;exact⟨A,c,h1,h2.keep hsz hk⟩
theorem MapR.imp (h:MapR P w mb N m D)(hi:∀k,P k->k<w.heap.size->Q k)(hn:¬Q mb):MapR Q w mb N m D:=
 ⟨h.own,h.has,λs t ht=>by obtain⟨A,c,h1,h2⟩:=h.at_ s t ht;exact⟨A,c,h1,h2.imp hi⟩,hn⟩
theorem MapR.keep (h:MapR P w mb N m D)(hb:Below w.heap.size w w'):MapR P w' mb N m D:=h.move hb.size (hb.block mb h.lt) (λp _ hl=>hb.cell hl)
theorem VZ (P)(w:World)(hn:¬P w.heap.size):MapR P (w.alloc (.map #[] 0)) w.heap.size 0 [] (.map []):=
 ⟨World.ownsMap_made w _ _ _,λs=>rfl,λs t ht=>(by cases ht),hn⟩
theorem MapR.none (h:MapR P w mb N m D) {s:ByteArray} (hg:Ar m s=none) (hs:s.size<=maxLen) :
 (Instr.lookup 104 (.map (some mb)) (.string s) true).run prog w = .ok (.tuple #[F1,.bool false]) w/\(Instr.lookup 104 (.map (some mb)) (.string s) false).run prog w = .ok F1 w:=by
 have hf:Maps.has D (Fg s)=false:=by rw[h.has];unfold CR;rw[hg];rfl
 constructor
 .obtain⟨v,ps,h1,h2⟩:=h.own.look_ok FI IX (Ji w) (zd:=.held F1) (zp:=[]) rfl (IY s hs);rw[Maps.atKey_of_not_has hf]at h2;simp only[elR,Option.some.injEq,Prod.mk.injEq,DataW.held.injEq]at h2;rw[h1,hf,h2.1]
 obtain⟨v,ps,h1,h2⟩:=h.own.lookup FI IX (Ji w) (zd:=.held F1) (zp:=[]) rfl (IY s hs);rw[Maps.atKey_of_not_has hf]at h2;simp only[elR,Option.some.injEq,Prod.mk.injEq,DataW.held.injEq]at h2;rw[h1,h2.1]
theorem MapR.some_ (h:MapR P w mb N m D){s t}(hg:Ar m s=some t)(hs:s.size<=maxLen):
 ∃A c,(Instr.lookup 104 (.map (some mb)) (.string s) true).run prog w = .ok (.tuple #[.agg #[.slice A t.bs.length c,.bool t.loose],.bool true]) w /\
  (Instr.lookup 104 (.map (some mb)) (.string s) false).run prog w = .ok (.agg #[.slice A t.bs.length c,.bool t.loose]) w/\RdP w P A t.bs.length c t.bs:=by
 have hf:Maps.has D (Fg s)=true:=by rw[h.has];unfold CR;rw[hg];rfl
 obtain⟨A,c,ha,hr⟩:=h.at_ s t hg;refine⟨A,c,?_,?_,hr⟩
 .obtain⟨v,ps,h1,h2⟩:=h.own.look_ok FI IX (Ji w) (zd:=.held F1) (zp:=[]) rfl (IY s hs);rw[ha]at h2;simp only[elR,Option.some.injEq,Prod.mk.injEq,DataW.held.injEq]at h2;rw[h1,hf,h2.1]
 obtain⟨v,ps,h1,h2⟩:=h.own.lookup FI IX (Ji w) (zd:=.held F1) (zp:=[]) rfl (IY s hs);rw[ha]at h2;simp only[elR,Option.some.injEq,Prod.mk.injEq,DataW.held.injEq]at h2;rw[h1,h2.1]
theorem MapR.put (h:MapR P w mb N m D)(hN:N<=1000000){s}(hs:s.size<=maxLen)(hr:RdP w P A bs.length c bs):
 ∃w' D',(Instr.mapUpdate 104 (.map (some mb)) (.string s) (.agg #[.slice A bs.length c,.bool lo])).run prog w = .ok () w'/\MapR P w' mb (N+1) (Be m s ⟨bs,lo⟩) D'/\w.grownBy w' (some mb):=by
 obtain⟨w',O,T,hg⟩:=h.own.update FI IX gn (IY s hs) (val:=.agg #[.slice A bs.length c,.bool lo]) (d:=.held (.agg #[.slice A bs.length c,.bool lo])) (ps:=[]) rfl;have ht:=h.own.tidy FI;have I:∀p:Addr,P p.block->p.block<w.heap.size->w'.cell? p=w.cell? p:=λp hp hl=>DE (w:=w) (hg.block p.block hl (by intro q;injection q with q;rw[q]at hp;exact h.nP hp));refine⟨w',_,O,⟨T,λr=>?_,λr t G=>?_,h.nP⟩,hg⟩
 .by_cases e:r=s
  .subst e;rw[Maps.has_put_same ht.isMap (by trivial)];unfold CR;rw[LS];rfl
  rw[Maps.has_put_other (PW e),h.has];unfold CR;rw[Jh e]
 by_cases e:r=s
 .subst e;rw[LS]at G;injection G with G;subst G;exact⟨A,c,Maps.atKey_put_same ht.isMap (by trivial) _ _,hr.keep hg.size I⟩
 rw[Jh e]at G;obtain⟨A2,c2,h1,h2⟩:=h.at_ r t G;exact⟨A2,c2,(Maps.atKey_put_other (PW e) _ _).trans h1,h2.keep hg.size I⟩
end
structure StR (P:Nat->Prop) (w:World) (sb mb N:Nat) (s:So):Prop where
 bx:dH w sb [io s.quota,io s.used,.map (some mb),.string s.cell,io s.fuse,io s.fault,.bool s.dead]
 mp:∃D,MapR P w mb N s.m D
 nP:¬P sb
 ne:sb≠mb
 ok:s.ok
structure Ost (sb mb:Nat) (w w':World):Prop where
 os:w'.os=w.os
 tape:w'.tape=w.tape
 output:w'.output=w.output
 size:w.heap.size<=w'.heap.size
 block:∀k,k<w.heap.size->k≠sb->k≠mb->w'.heap[k]? = w.heap[k]?
section
variable {P Q:Nat->Prop} {u w w':World} {sb mb N:Nat} {s:So}
theorem Ost.refl (sb mb w):Ost sb mb w w:=⟨rfl,rfl,rfl,AD _,λ_ _ _ _=>rfl⟩
theorem Ost.trans (h:Ost sb mb u w)(k:Ost sb mb w w'):Ost sb mb u w':=⟨k.os.trans h.os,k.tape.trans h.tape,k.output.trans h.output,AS h.size k.size,λi hi h1 h2=>(k.block i (AV hi h.size) h1 h2).trans (h.block i hi h1 h2)⟩
theorem Ost.of (h:Below w.heap.size w w'):Ost sb mb w w':=⟨h.os,h.tape,h.output,h.size,λk hk _ _=>h.block k hk⟩
theorem Ost.ofOth (h:Oth sb w w'):Ost sb mb w w':=⟨h.os,h.tape,h.output,h.size,λk hk h1 _=>h.block k hk h1⟩
theorem Ost.map (hg:w.grownBy w' (some mb)):Ost sb mb w w':=⟨hg.os,hg.tape,hg.output,hg.size,λk hk _ h2=>hg.block k hk (by intro q;injection q with q;exact h2 q)⟩
theorem Ost.drew (h:Ost sb mb u w):Ost sb mb u w.drew:=⟨h.os,h.tape,h.output,h.size,h.block⟩
theorem Ost.cell (h:Ost sb mb w w'){p}(hp:p.block<w.heap.size)(h1:p.block≠sb)(h2:p.block≠mb):w'.cell? p=w.cell? p:=DE (w:=w) (h.block _ hp h1 h2)
theorem StR.keep (h:StR P w sb mb N s)(hb:Below w.heap.size w w'):StR P w' sb mb N s:=⟨h.bx.keep hb h.bx.z,by obtain⟨D,hD⟩:=h.mp;exact⟨D,hD.keep hb⟩,h.nP,h.ne,h.ok⟩
theorem StR.drew (h:StR P w sb mb N s):StR P w.drew sb mb N s:=h.keep ((AC _ w).drew)
theorem StR.mono (h:StR P w sb mb N s){N2}(hN:N<=N2):StR P w sb mb N2 s:=⟨h.bx,by obtain⟨D,hD⟩:=h.mp;exact⟨D,hD.own.mono hN,hD.has,hD.at_,hD.nP⟩,h.nP,h.ne,h.ok⟩
theorem StR.imp (h:StR P w sb mb N s)(hi:∀k,P k->k<w.heap.size->Q k)(h1:¬Q sb)(h2:¬Q mb):StR Q w sb mb N s:=⟨h.bx,by obtain⟨D,hD⟩:=h.mp;exact⟨D,hD.imp hi h2⟩,h1,h.ne,h.ok⟩
theorem StR.mlt (h:StR P w sb mb N s):mb<w.heap.size:=by obtain⟨D,hD⟩:=h.mp;exact hD.lt
theorem StR.box (h:StR P w sb mb N s)(ho:Oth sb w w'){s2}(hm:s2.m=s.m)(hk:s2.ok)(hb:dH w' sb [io s2.quota,io s2.used,.map (some mb),.string s2.cell,io s2.fuse,io s2.fault,.bool s2.dead]):StR P w' sb mb N s2:=by
 obtain⟨D,hD⟩:=h.mp;refine⟨hb,⟨D,by rw[hm];exact hD.move ho.size (ho.block mb hD.lt (λq=>h.ne q.symm)) (λp hp hl=>ho.cell hl (λq=>h.nP (by rw[<-q];exact hp)))⟩,h.nP,h.ne,hk⟩
theorem StR.map (h:StR P w sb mb N s)(hg:w.grownBy w' (some mb)){N2 m2 D2}(hM:MapR P w' mb N2 m2 D2)(hk:({ s with m:=m2 }:So).ok):StR P w' sb mb N2 { s with m:=m2 }:=by
 have G:w'.heap[sb]? = w.heap[sb]?:=hg.block sb h.bx.z (by intro q;injection q with q;exact h.ne q);exact⟨⟨λj v hj=>(DE (w:=w) (a:=gX sb j) G).trans (h.bx.cell j v hj),λj hj=>(EY (w:=w) (a:=gX sb j) G).trans (h.bx.free j hj),AV h.bx.z hg.size⟩,⟨D2,hM⟩,h.nP,h.ne,hk⟩
end
def Jj (P:Nat->Prop) (w:World) (sb mb N:Nat) (r:So×Nat) (e:Ending) (w':World):Prop:=
 e = .returned (io (r.2:Int))/\StR P w' sb mb N r.1/\Ost sb mb w w'
theorem LT (P w sb mb N s)(h:StR P w sb mb N s):Calls prog 118 #[iq sb 0] w (Jj P w sb mb N s.change):=by
 obtain⟨-,-,-,-,c4,c5,c6⟩:=h.bx.c7;obtain⟨-,-,-,-,f4,f5,f6⟩:=h.bx.f7;by_cases h0:s.fuse=0
 .have t8:(s.fuse==0)=true:=by rw[Ap];exact h0
  have hc:s.change=({ s with dead:=true },120):=by unfold So.change;rw[AJ h0]
  have HC:=AB hc;have hk:=h.ok.change;rw[hc]at hk;have HK:=AB hk;clear h0 hc hk;go_enter func118,ntmps118;go_wp2_with fail
  go_ret;rw[HC.o];exact⟨rfl,h.box ((Oth.refl sb w).set 6 _) rfl HK.o (h.bx.set (j:=6) (.bool true) rfl),.ofOth ((Oth.refl sb w).set 6 _)⟩
 have t8:(s.fuse==0)=false:=by rw[AQ];exact h0
 obtain⟨q1,q2,q3,q4,q5,q6,q7,q8,q9⟩:=h.ok;have hc:s.change=({ s with fuse:=max (s.fuse-1) (-1),fault:=max (s.fault-1) (-1) },if s.fault=0 then 121 else 0):=by unfold So.change;rw[AE h0]
 have hk:=h.ok.change;rw[hc]at hk;have HK:=AB hk;have HC:=AB hc;have w1:wrap64 (s.fuse-1)=s.fuse-1:=F7 _ ⟨gd,gd⟩;have w2:wrap64 (s.fault-1)=s.fault-1:=F7 _ ⟨gd,gd⟩;obtain⟨fb,G⟩:∃b,b=(s.fault==0):=⟨_,rfl⟩;have I:(s.fault==0)=fb:=G.symm;have T:=AB G;clear h0 hc hk G q1 q2 q3 q4 q9;go_enter func118,ntmps118;go_upto_region 5 with fail
 go_region
 have X:=((h.bx.set (j:=4) (io (max (s.fuse-1) (-1))) rfl).set (j:=5) (io (max (s.fault-1) (-1))) rfl).oth (Oth.refl (sb+1) _).drew gd;have O:=(((Oth.refl sb w).set 4 (io (max (s.fuse-1) (-1)))).set 5 (io (max (s.fault-1) (-1)))).drew;generalize ((w.setCell _ _).setCell _ _).drew=w3 at *;have HX:=AB X;clear X c4 c5 c6 f4 f5 f6;cases fb with
 | true=>
   have he:s.fault=0:=by have:=T.o;rw[eq_comm,Ap]at this;exact this
   have HE:=AB he;clear he I t8;(go_wp2_with fail);go_ret;rw[HC.o,AJ HE.o];exact⟨rfl,h.box O rfl HK.o HX.o,.ofOth O⟩
 | false=>
   have he:¬s.fault=0:=by have:=T.o;rw[eq_comm,AQ]at this;exact this
   have HE:=AB he;clear he I t8;(go_wp2_with fail);go_ret;rw[HC.o,AE HE.o];exact⟨rfl,h.box O rfl HK.o HX.o,.ofOth O⟩
theorem Va (P w sb mb N s)(h:StR P w sb mb N s)(nm)(hn:nm.size<=maxLen):Calls prog 117 #[iq sb 0,.string nm] w λe w'=>e = .returned (.bool (CR s.m nm))/\Below w.heap.size w w':=by
 have:=h.bx.cell 2 _ rfl;obtain⟨D,hD⟩:=h.mp;cases hg:Ar s.m nm with
 | none=>
   have hk:=(hD.none hg hn).1;have HM:ga (CR s.m nm=false):=AB (by unfold CR;rw[hg];rfl);unfold F1 at hk;clear hg hD;go_enter func117,ntmps117;(go_wp2_with fail);go_ret;exact⟨by rw[HM.o];rfl,(AC _ _).alloc (AD _) _⟩
 | some t=>
   obtain⟨A,c,hk,_,_⟩:=hD.some_ hg hn;have HM:ga (CR s.m nm=true):=AB (by unfold CR;rw[hg];rfl);clear hg hD;go_enter func117,ntmps117;(go_wp2_with fail);go_ret;exact⟨by rw[HM.o];rfl,(AC _ _).alloc (AD _) _⟩
theorem Vb (P w q)(q0 : -9223372036854775808<=q)(q1:q<=9223372036854775807)(hP:∀k,P k->k<w.heap.size\/w.heap.size+2<=k):Calls prog 9 #[io q] w λe w'=>e = .returned (iq (w.heap.size+1) 0)/\StR P w' (w.heap.size+1) w.heap.size 0 (So.new q)/\Below w.heap.size w w'/\w'.heap.size=w.heap.size+2:=by
 have:=@run_makeMap prog;have hM:=VZ P w (λhk=>by have:=hP _ hk;omega);have G:=hI w (.map #[] 0);have z1:(w.alloc (.map #[] 0)).heap.size=w.heap.size+1:=gj;go_enter func9,ntmps9;go_wp2_with fail
 generalize w.alloc _=w1 at *;obtain⟨x,I⟩:=gZ w1 #[io (max 0 q),io 0,.map (some w.heap.size),.string ⟨#[]⟩,io (-1),io (-1),.bool false] 106;have z2:(w1.alloc (.cells #[io (max 0 q),io 0,.map (some w.heap.size),.string ⟨#[]⟩,io (-1),io (-1),.bool false] 106)).heap.size=w.heap.size+2:=gt;rw[z1]at x;go_ret;refine⟨rfl,⟨x,⟨_,hM.keep I⟩,λhk=>by have:=hP _ hk;omega,gd,?_⟩,AM G G.size I,z2⟩;exact⟨by show 0<=max 0 q;omega,by show max 0 q<=_;omega,rfl,by show(0:Int)<=max 0 q;omega,(by show(-1:Int)<=-1;decide),(by show(-1:Int)<=9223372036854775807;decide),(by show(-1:Int)<=-1;decide),(by show(-1:Int)<=9223372036854775807;decide),List.Pairwise.nil⟩
theorem Vc {P w base n c A l}(h:w.ownsRow base 5 1 (.slice A n c) n (AO l))(hi:∀k,base<=k->P k):RdP w P A n c l:=by
 obtain⟨A',c',q,hr⟩:=Rd.of_own h;injection q with q1 q2 q3;subst q1 q3;refine⟨hr,λhn=>?_⟩;obtain⟨g,cap,q,hb,_⟩:=h.form hn;injection q with q1 _ _;exact⟨g,0,q1,hi g hb⟩
theorem StR.map2 {P w w' sb mb N N2 s m2 D2}(h:StR P w sb mb N s)(hg:w.grownBy w' (some mb))(hM:MapR P w' mb N2 m2 D2):
 dH w' sb [io s.quota,io s.used,.map (some mb),.string s.cell,io s.fuse,io s.fault,.bool s.dead]/\(∃D,MapR P w' mb N2 m2 D)/\¬P sb/\sb≠mb:=by
 have G:w'.heap[sb]? = w.heap[sb]?:=hg.block sb h.bx.z (by intro q;injection q with q;exact h.ne q);exact⟨⟨λj v hj=>(DE (w:=w) (a:=gX sb j) G).trans (h.bx.cell j v hj),λj hj=>(EY (w:=w) (a:=gX sb j) G).trans (h.bx.free j hj),AV h.bx.z hg.size⟩,⟨D2,hM⟩,h.nP,h.ne⟩
theorem So.get_dead {s:So}(h:s.dead=true)(nm):s.get nm=([],120):=by unfold So.get;rw[AJ h]
theorem So.get_none {s:So}(h:s.dead=false){nm}(hg:Ar s.m nm=none):s.get nm=([],2):=by unfold So.get;rw[AE gz,hg]
theorem So.get_some {s:So}(h:s.dead=false){nm t}(hg:Ar s.m nm=some t):s.get nm=(t.bs,0):=by unfold So.get;rw[AE gz,hg]
theorem RdP.low {P w w' A n c l}(h:RdP w P A n c l)(hb:Below w.heap.size w w'):RdP w' P A n c l:=h.keep hb.size λ_ _ hl=>hb.cell hl
theorem RdP.ost {w w' sb mb A n c l}(h:RdP w (λk=>k≠sb/\k≠mb) A n c l)(ho:Ost sb mb w w'):RdP w' (λk=>k≠sb/\k≠mb) A n c l:=h.keep ho.size λp hp hl=>ho.cell hl hp.1 hp.2
theorem Vd {P w sb mb N}{s:So}{nm bs}(hx:dH w sb [io s.quota,io s.used,.map (some mb),.string s.cell,io s.fuse,io s.fault,.bool s.dead])(hD:∃D,MapR P w mb N (Be s.m nm ⟨bs,true⟩) D)(h1:¬P sb)(h2:sb≠mb)(hk:(s.add nm bs).ok):
 StR P (w.setCell (gX sb 1) (io (s.used+(bs.length:Int)))) sb mb N (s.add nm bs):=by
 obtain⟨D,hD⟩:=hD;have ho:=(Oth.refl sb w).set 1 (io (s.used+(bs.length:Int)));exact⟨hx.set (j:=1) (io (s.used+(bs.length:Int))) rfl,⟨D,hD.move ho.size (ho.block mb hD.lt (λq=>h2 q.symm)) (λp hp hl=>ho.cell hl (λq=>h1 (by rw[<-q];exact hp)))⟩,h1,h2,hk⟩
def Ve (w:World) (r:List UInt8×Nat) (e:Ending) (w':World):Prop:=
 Below w.heap.size w w'/\∃A c,e = .returned (.tuple #[.slice A r.1.length c,io (r.2:Int)])/\w'.ownsRow w.heap.size 5 1 (.slice A r.1.length c) r.1.length (AO r.1)
theorem PX (P w sb mb N s)(h:StR P w sb mb N s)(nm)(hn:nm.size<=maxLen)(hl:∀t,Ar s.m nm=some t->t.bs.length<=1000000):Calls prog 47 #[iq sb 0,.string nm] w (Ve w (s.get nm)):=by
 obtain⟨-,-,c2,-,-,-,c6⟩:=h.bx.c7;obtain⟨D,hD⟩:=h.mp;cases hd:s.dead with
 | true=>
   rw[hd]at c6;have HG:=AB (So.get_dead hd nm);clear hd hD h;go_enter func47,ntmps47;(go_wp2_with fail);go_ret2;rw[HG.o];exact⟨AC _ _,none,0,rfl,Av _ _ _ _⟩
 | false=>
   rw[hd]at c6;cases hg:Ar s.m nm with
   | none=>
     have hk:=(hD.none hg hn).1;have HG:=AB (So.get_none hd hg);unfold F1 at hk;clear hg hD hd h;go_enter func47,ntmps47;(go_wp2_with fail);go_ret2;rw[HG.o];exact⟨(AC _ _).alloc (AD _) _,none,0,rfl,Av _ _ _ _⟩
   | some t=>
     obtain⟨A,c,hk,_,hr⟩:=hD.some_ hg hn;have HG:=AB (So.get_some hd hg);have:=hl t hg;obtain⟨y,G⟩:=gZ w #[.slice A t.bs.length c,.bool t.loose] 131;have I:=(hr.rd.below G).more G.size;have:=y.cell 0 _ rfl;clear hg hD hd h hr y hl;go_enter func47,ntmps47;(go_wp2_with fail);generalize w.alloc _=w1 at *;refine(JQ w1 w1.heap.size _ c A _ I (Bb _) gd (AD _)).mono ?_;rintro e w2 ⟨v2,rfl,hown2,hb2⟩;obtain⟨A2,c2,rfl⟩:=BK hown2;(go_wp2_with fail);go_ret2;rw[HG.o];exact⟨AM G G.size hb2,A2,c2,rfl,B4 hown2 G.size⟩
theorem So.put_dead {s:So}(h:s.dead=true)(nm bs):s.put nm bs=(s,120):=by unfold So.put;rw[AJ h]
theorem So.put_name {s:So}(h:s.dead=false){nm}(h1:Aq nm=false)(bs):s.put nm bs=(s,1):=by unfold So.put;rw[AE gz,AJ h1]
theorem So.put_there {s:So}(h:s.dead=false){nm}(h1:Aq nm=true)(h2:CR s.m nm=true)(bs):s.put nm bs=(s,3):=by unfold So.put;rw[AE gz,AE (by rw[h1];simp),AJ h2]
theorem So.put_long {s:So}(h:s.dead=false){nm}(h1:Aq nm=true)(h2:CR s.m nm=false){bs}(h3:65536<bs.length):s.put nm bs=(s,5):=by unfold So.put;rw[AE gz,AE (by rw[h1];simp),AE (by rw[h2];simp),AJ h3]
theorem So.put_quota {s:So}(h:s.dead=false){nm}(h1:Aq nm=true)(h2:CR s.m nm=false){bs}(h3:¬ 65536<bs.length)(h4:s.quota-s.used<bs.length):s.put nm bs=(s,122):=by unfold So.put;rw[AE gz,AE (by rw[h1];simp),AE (by rw[h2];simp),AE h3,AJ h4]
theorem So.put_on {s:So}(h:s.dead=false){nm}(h1:Aq nm=true)(h2:CR s.m nm=false){bs}(h3:¬ 65536<bs.length)(h4:¬s.quota-s.used<bs.length):s.put nm bs=if s.change.2=121 then s.change else (s.change.1.add nm bs,s.change.2):=by unfold So.put;rw[AE gz,AE (by rw[h1];simp),AE (by rw[h2];simp),AE h3,AE h4]
theorem Oth.set' {u w p}(h:Oth p.block u w)(x):Oth p.block u (w.setCell p x):=h.trans ⟨rfl,rfl,rfl,by simp[World.setCell],λ_ _ G=>Below.heap_setCell _ _ _ _ G⟩
theorem Vg {m}(hd:FJ m){s t}(h:Ar m s=some t)(u):CS (Be m s u)+t.bs.length=CS m+u.bs.length:=by
 have:=VY hd h;unfold Be;rw[PU];have e:CS [(s,u)]=u.bs.length:=by simp[CS]
 rw[e];omega
theorem RdP.ostP {P w w' sb mb A n c l}(h:RdP w P A n c l)(ho:Ost sb mb w w')(h1:¬P sb)(h2:¬P mb):RdP w' P A n c l:=
 h.keep ho.size λp hp hl=>ho.cell hl (λq=>h1 (by rw[<-q];exact hp)) (λq=>h2 (by rw[<-q];exact hp))
theorem StR.nM {P w sb mb N s}(h:StR P w sb mb N s):¬P mb:=by obtain⟨D,hD⟩:=h.mp;exact hD.nP
theorem StR.else {P w sb mb N s}(h:StR P w sb mb N s){p}(h1:p.block≠sb)(h2:p.block≠mb)(h3:¬P p.block)(x):StR P (w.setCell p x) sb mb N s:=by
 have ho:=(Oth.refl p.block w).set' x;obtain⟨D,hD⟩:=h.mp;exact⟨h.bx.oth ho (λq=>h1 q.symm),⟨D,hD.move ho.size (ho.block mb hD.lt (λq=>h2 q.symm)) (λr hr hl=>ho.cell hl (λq=>h3 (by rw[<-q];exact hr)))⟩,h.nP,h.ne,h.ok⟩
theorem So.sync_dead {s:So}(h:s.dead=true)(nm):s.sync nm=(s,120):=by unfold So.sync;rw[AJ h]
theorem So.sync_none {s:So}(h:s.dead=false){nm}(hg:Ar s.m nm=none):s.sync nm=(s,2):=by unfold So.sync;rw[AE gz,hg]
theorem So.sync_on {s:So}(h:s.dead=false){nm t}(hg:Ar s.m nm=some t):s.sync nm=if s.change.2=0 then ({ s.change.1 with m:=Be s.change.1.m nm ⟨t.bs,false⟩ },0) else s.change:=by unfold So.sync;rw[AE gz,hg]
theorem So.ok.turn {s:So}(h:s.ok){nm t}(hg:Ar s.m nm=some t)(l):({ s with m:=Be s.m nm ⟨t.bs,l⟩ }:So).ok:=by
 obtain⟨a,b,c,d,e,f,g,i,j⟩:=h;have:=Vg j hg ⟨t.bs,l⟩;exact⟨a,b,by show s.used=CS (Be s.m nm ⟨t.bs,l⟩);dsimp only at this;omega,d,e,f,g,i,PT j nm _⟩
theorem Vi (A n c l W):(Instr.field 131 (.agg #[.slice A n c,.bool l]) 1).run prog W = .ok (.bool l) W:=gh
theorem So.swap_dead {s:So}(h:s.dead=true)(o n):s.swap o n=(s,120):=by unfold So.swap;rw[AJ h]
theorem So.swap_other {s:So}(h:s.dead=false){o}(n)(hc:(s.cell.toList==o.toList)=false):s.swap o n=(s,123):=by unfold So.swap;rw[AE gz,AJ hc]
theorem So.swap_name {s:So}(h:s.dead=false){o n}(hc:(s.cell.toList==o.toList)=true)(hn:Aq n=false):s.swap o n=(s,1):=by unfold So.swap;rw[AE gz,AE (by rw[hc];simp),AJ hn]
theorem So.swap_on {s:So}(h:s.dead=false){o n}(hc:(s.cell.toList==o.toList)=true)(hn:Aq n=true):s.swap o n=if s.change.2=0 then ({ s.change.1 with cell:=n },0) else s.change:=by unfold So.swap;rw[AE gz,AE (by rw[hc];simp),AE (by rw[hn];simp)]
def GG (k:List UInt8):ByteArray:=⟨k.toArray⟩
def GH (m:Mp):List (List UInt8):=m.map λp=>p.1.data.toList
def Bl (m:Mp):List ByteArray:=((GH m).mergeSort leB).map GG
def IZ (m:Mp) (s:ByteArray):Bool:=match Ar m s with|some t=>t.loose|none=>false
def PZ (m:Mp):List ByteArray:=(Bl m).filter (IZ m)
theorem Jk (s):GG s.data.toList=s:=by unfold GG;cases s;simp
theorem Vj (x):Fg (GG x) = .string x:=by simp[Fg,GG]
theorem Pa {m x}:x∈GH m↔CR m (GG x)=true:=by
 unfold GH CR;rw[CG];constructor
 .rintro⟨p,hp,rfl⟩;rw[Jk];cases hg:Ar m p.1 with
  | some t=>rfl
  | none=>exact absurd rfl (PS hg p hp)
 intro h;obtain⟨t,ht⟩:=Option.isSome_iff_exists.1 h;exact⟨_,Ff ht,by simp[GG]⟩
theorem MapR.keys {P w mb N m D}(h:MapR P w mb N m D)(hd:FJ m):(GH m).Perm (strKeys D):=by
 obtain⟨es,rfl,hp⟩:=h.own.tidy FI;obtain⟨O,e,hk⟩:=h.own.keysOf;injection e with e;subst e;refine perm_strKeys hp (λp I=>?_) ?_ λx=>?_
 .obtain⟨T,G⟩:=hk p I;obtain⟨x,_,hx,_⟩:=Maps.keyOf_str underlying9 G;exact⟨x,hx⟩
 .unfold GH;refine List.pairwise_map.2 (hd.imp λ{p q} hne e=>hne ?_);rw[<-Jk p.1,<-Jk q.1,e]
 rw[Pa,<-h.has,Vj]
theorem LU {m s}(h:s∈Bl m):∃t,Ar m s=some t:=by
 unfold Bl at h;obtain⟨x,hx,rfl⟩:=CG.1 h;have:CR m (GG x)=true:=Pa.1 ((List.mergeSort_perm _ _).mem_iff.1 hx);exact Option.isSome_iff_exists.1 this
theorem MapR.size {P w mb N m D}(h:MapR P w mb N m D){s}(hs:s∈Bl m)(hd:FJ m):s.size<=maxLen:=by
 unfold Bl at hs;obtain⟨x,hx,rfl⟩:=CG.1 hs;have h1:x∈GH m:=(List.mergeSort_perm _ _).mem_iff.1 hx;have:=strKeys_le h.own underlying9 x ((h.keys hd).mem_iff.1 h1);show x.toArray.size<=maxLen;simpa using this
def Vk (w:World) (l:List ByteArray) (e:Ending) (w':World):Prop:=
 Below w.heap.size w w'/\∃A c,e = .returned (.slice A l.length c)/\Rd w' w'.heap.size 1 A l.length c (AY l)/\∀b,b<w.heap.size->some b≠(Value.slice A l.length c).ownBlock
def So.small (s:So):Prop:= ∀p∈s.m,p.2.bs.length<=65536
structure SoLe (k:Nat) (s s2:So):Prop where
 len:s2.m.length<=s.m.length+k
 quota:s2.quota=s.quota
 small:s.small->s2.small
theorem SoLe.refl (k s):SoLe k s s:=⟨Nat.le_add_right _ _,rfl,id⟩
theorem SoLe.of {k s s2}(hm:s2.m=s.m)(hq:s2.quota=s.quota):SoLe k s s2:=⟨by rw[hm];omega,hq,λh p hp=>h p (by rw[<-hm];exact hp)⟩
theorem SoLe.trans {a b s t u}(h:SoLe a s t)(k:SoLe b t u):SoLe (a+b) s u:=⟨by have:=h.len;have:=k.len;omega,k.quota.trans h.quota,λq=>k.small (h.small q)⟩
theorem Hu (k s):SoLe k s s.change.1:=.of s.change_m s.change_quota
theorem Ia {m nm t p}(h:p∈Be m nm t):p∈m\/p=(nm,t):=by
 unfold Be at h;rcases List.mem_append.1 h with q|q
 .exact .inl (Jg.1 q).1
 exact .inr (BS.1 q)
theorem Vm (s nm bs)(h:bs.length<=65536):SoLe 1 s (s.add nm bs):=
 ⟨VW _ _ _,rfl,λhs p hp=>by
  rcases Ia hp with q|q
  .exact hs p q
  .rw[q];exact h⟩
theorem Vn (s nm bs):SoLe 1 s (s.put nm bs).1:=by
 unfold So.put;split
 .exact .refl _ _
 split
 .exact .refl _ _
 split
 .exact .refl _ _
 split
 .exact .refl _ _
 split
 .exact .refl _ _
 split
 .exact Hu _ _
 exact(Hu 0 s).trans (Vm _ nm bs gd)
theorem Vo {m nm t}(h:Ar m nm=some t):(CB m nm).length+1<=m.length:=by
 have h1:=Ff h;unfold CB;induction m with
 | nil=>cases h1
 | cons p m ih=>
   rw[List.filter_cons];cases hk:E6 nm p with
   | true=>
     have:=List.length_filter_le (λp=>!E6 nm p) m;simp only[Bool.not_true,EK,if_false,Bg];omega
   | false=>
     have h2:Ar m nm=some t:=by
      have:Ar (p::m) nm=Ar m nm:=by unfold Ar;rw[List.find?_cons,hk]
      rw[<-this];exact h
     have:=ih h2 (Ff h2);simp only[Bool.not_false,if_true,Bg];omega
theorem Vp (k){s nm t}(h:Ar s.m nm=some t)(u)(hu:u.bs.length<=t.bs.length){x}:SoLe k s { s with m:=Be s.m nm u,used:=x }:=
 ⟨by
  show(CB s.m nm++[(nm,u)]).length<=_;have:=Vo h;rw[AR,Ea];omega,rfl,λhs p hp=>by
  rcases Ia hp with q|q
  .exact hs p q
  .rw[q];exact AS hu (hs _ (Ff h))⟩
theorem Vq (s nm):SoLe 1 s (s.sync nm).1:=by
 unfold So.sync;split
 .exact .refl _ _
 split
 .exact .refl _ _
 rename_i t ht;split
 .have hm:Ar s.change.1.m nm=some t:=by rw[s.change_m];exact ht
  have h2:SoLe 1 s.change.1 { s.change.1 with m:=Be s.change.1.m nm ⟨t.bs,false⟩ }:=Vp 1 hm ⟨t.bs,false⟩ (AD _) (x:=s.change.1.used);exact(Hu 0 s).trans (b:=1) h2
 exact Hu _ _
theorem Vr (s o nw):SoLe 1 s (s.swap o nw).1:=by
 unfold So.swap;split
 .exact .refl _ _
 split
 .exact .refl _ _
 split
 .exact .refl _ _
 split
 .have h2:SoLe 1 s.change.1 { s.change.1 with cell:=nw }:=.of rfl rfl;exact(Hu 0 s).trans (b:=1) h2
 exact Hu _ _
theorem Pb {s:So}(h:s.small){nm}:∀t,Ar s.m nm=some t->t.bs.length<=1000000:=λt ht=>by
 have:=h _ (Ff ht);simp only at this;omega
structure So.calm (s:So):Prop where
 dead:s.dead=false
 fuse:s.fuse = -1
 fault:s.fault = -1
theorem Vs {m p}(h:p∈m):p.1∈Bl m:=by
 unfold Bl;rw[CG];refine⟨p.1.data.toList,(List.mergeSort_perm _ _).mem_iff.2 ?_,Jk _⟩;unfold GH;exact CG.2 ⟨p,h,rfl⟩
def Vt (w:World) (l:List ByteArray) (c:Nat) (e:Ending) (w':World):Prop:=
 Below w.heap.size w w'/\∃A k,e = .returned (.tuple #[.slice A l.length k,io c])/\Rd w' w'.heap.size 1 A l.length k (AY l)/\∀b,b<w.heap.size->some b≠(Value.slice A l.length k).ownBlock
def So.list (s:So):List ByteArray×Nat:=if s.dead=true then ([],120) else (Bl s.m,0)
theorem So.list_dead {s:So}(h:s.dead=true):s.list=([],120):=AJ h
theorem So.list_on {s:So}(h:s.dead=false):s.list=(Bl s.m,0):=AE gz
theorem Vu (P w sb mb N s)(h:StR P w sb mb N s)(hN:N<=1000000):
 Calls prog 17 #[iq sb 0] w (Vt w s.list.1 s.list.2):=by
 have c6:=h.bx.cell 6 _ rfl;have c2:=h.bx.cell 2 _ rfl;cases hd:s.dead with
 | true=>
   rw[hd]at c6;have HG:=AB (So.list_dead hd);clear hd;go_enter func17,ntmps17;(go_wp2_with fail);go_ret2;rw[HG.o];exact⟨AC _ _,none,0,rfl,Rd.nil _ _ _,λb _ q=>gu⟩
 | false=>
 rw[hd]at c6;have HG:=AB (So.list_on hd);clear hd;obtain⟨D,hD⟩:=h.mp;have ad:=hD.own.size_le;have I:=hD.keys h.ok.di;go_enter func17,ntmps17;go_wp2_with fail
 refine(callsIn_wide.1 (PI (some mb) w)).mono ?_;rintro e w1 ⟨rfl,rfl⟩;have O:=hI w (.cells #[.map (some mb)] 104);go_wp2_with fail
 refine(callsIn_wide.1 (PJ mb N D elR w hD.own gn gd)).mono ?_;rintro e w2 ⟨v2,ss,rfl,hss,hown2,_,hb2⟩;have G:ss.mergeSort leB=(GH s.m).mergeSort leB:=mergeSort_of_perm (hss.trans I.symm);have T:ss.length=(Bl s.m).length:=by unfold Bl;rw[Ae,<-G,List.length_mergeSort]
 have V:(ss.mergeSort λx y=>decide (x<=y)).map Go.Proofs.encStr=AY (Bl s.m):=by
  show(ss.mergeSort leB).map Go.Proofs.encStr=_;rw[G];unfold AY Bl;rw[List.map_map];rfl
 rw[V,T]at hown2;obtain⟨A2,ae,rfl⟩:=BK hown2;have Z:=Ay hown2;have aa:=AM O O.size hb2;have ab:=λb hb=>row_ne_low (b:=b) hown2 (AV hb O.size);have HX:=gS Z aa ab;clear Z aa ab hown2 V T G hss O hb2 I hD ad c2 h;go_wp2_with fail
 go_ret2;rw[HG.o];exact⟨HX.o.2.1,_,_,rfl,HX.o.1,HX.o.2.2⟩
instance:Inhabited Fd:=⟨⟨0,ByteArray.empty,0,false⟩⟩
section
variable {l:List Fd} {k:Nat} {f:Fd} (hf:l.getD k default=f)
include hf
end
theorem Vv (l):∀b i,Cp l b i<=82:=by
 intro b;induction b with
 | zero=>intro i;simp[Cp]
 | succ b ih=>
   intro i;unfold Cp;split
   .exact ih _
   unfold Cd;dsimp only;repeat' split
   all_goals omega
theorem Pc (id l):check id l<=82:=by
 unfold check;split
 .omega
 exact Vv _ _ _
section
variable {id:UInt32} {l:List Fd} {name:ByteArray} {k:Nat}
theorem Pd (h:check id l≠0):Bk id l name k=check id l/\C8 id l name k=0/\Bu id l name k=[]:=by
 have e:Bk id l name k=check id l:=by unfold Bk;rw[AJ h]
 refine⟨e,?_,?_⟩
 .unfold C8;rw[e,AE h]
 unfold Bu;rw[e,AE h]
theorem Hv (h:check id l=0)(h2:l.length=8\/ED l=4294967295\/id.toNat=4294967295):Bk id l name k=4/\C8 id l name k=0/\Bu id l name k=[]:=by
 have e:Bk id l name k=4:=by unfold Bk;rw[AE gz,AJ h2]
 refine⟨e,?_,?_⟩
 .unfold C8;rw[e];rfl
 unfold Bu;rw[e];rfl
theorem Jl (h:check id l=0)(h2:¬(l.length=8\/ED l=4294967295\/id.toNat=4294967295))(h3:(!named name||CW l name)=true):Bk id l name k=80/\C8 id l name k=0/\Bu id l name k=[]:=by
 have e:Bk id l name k=80:=by unfold Bk;rw[AE gz,AE h2,AJ h3]
 refine⟨e,?_,?_⟩
 .unfold C8;rw[e];rfl
 unfold Bu;rw[e];rfl
theorem Pe (h:check id l=0)(h2:¬(l.length=8\/ED l=4294967295\/id.toNat=4294967295))(h3:(!named name||CW l name)=false)(h4:k<1\/3<k):Bk id l name k=10/\C8 id l name k=0/\Bu id l name k=[]:=by
 have e:Bk id l name k=10:=by unfold Bk;rw[AE gz,AE h2,AE (by rw[h3];simp),AJ h4]
 refine⟨e,?_,?_⟩
 .unfold C8;rw[e];rfl
 unfold Bu;rw[e];rfl
theorem Pf (h:check id l=0)(h2:¬(l.length=8\/ED l=4294967295\/id.toNat=4294967295))(h3:(!named name||CW l name)=false)(h4:¬(k<1\/3<k)):Bk id l name k=0/\C8 id l name k=UInt32.ofNat (id.toNat+1)/\Bu id l name k=l++[DH l name k]:=by
 have e:Bk id l name k=0:=by unfold Bk;rw[AE gz,AE h2,AE (by rw[h3];simp),AE h4]
 refine⟨e,?_,?_⟩
 .unfold C8;rw[e];rfl
 unfold Bu;rw[e];rfl
end
theorem Pg (l name k)(h:ED l+1<4294967296)(hk:k<256):fdV (DH l name k)=[im ((ED l+1:Nat):Int),.string name,ip k,.bool false]:=by
 unfold DH fdV;rw[ID h,J2 hk]
theorem Vw (w bf s)(hbf:bf<w.heap.size)(hc:w.cell? (gX bf 0)=some (.string s)):
 J8 w 157 #[iq bf 0] (λf=>f.name.toList==s.toList):=λW f hb=>by
 have:=(hb.cell (p:=gX bf 0) hbf).trans hc;have G:bf<W.heap.size:=AV hbf hb.size;have:bf≠W.heap.size:=Cy G;show Calls prog 157 #[.agg (fDV f),iq bf 0] W _;clear hc;go_enter func157,ntmps157;go_wp2_with fail
 go_ret;exact⟨rfl,hb.alloc hb.size _⟩
theorem Vx:∀args w,(callFunc 157 args).run prog w = .ok (.enter 157 args) w:=enters_of func157 gh rfl
theorem Hw (W:World)(b u v x y)(hb:b<W.heap.size)(c0:W.cell? (gX b 0)=some u)(c1:W.cell? (gX b 1)=some v)(o):
 (((W.setCell (gX b 0) x).setCell (gX b 1) y).alloc o).cell? (gX b 0)=some x/\(((W.setCell (gX b 0) x).setCell (gX b 1) y).alloc o).cell? (gX b 1)=some y:=by
 obtain⟨h0,h1⟩:=BZ W b u v x y c0 c1;have hs:((W.setCell (gX b 0) x).setCell (gX b 1) y).heap.size=W.heap.size:=gj;have hB:=(AC ((W.setCell (gX b 0) x).setCell (gX b 1) y).heap.size ((W.setCell (gX b 0) x).setCell (gX b 1) y)).alloc (AD _) o;exact⟨(hB.cell (p:=gX b 0) (by rw[hs];exact hb)).trans h0,(hB.cell (p:=gX b 1) (by rw[hs];exact hb)).trans h1⟩
def LV (xs:List Value) (v:Value) (w:World):Prop:= ∃A,v = .slice A 1 1/\Rd w w.heap.size 4 A 1 1 xs
theorem Vy (xs):(Slot.has (LV xs)).mono Ext:=λ_ _ _ he ⟨A,e,h⟩=>⟨A,e,(h.below he).more he.size⟩
theorem Vz (w:World)(cs){xs}(h:cs.toList=xs)(hs:cs.size=1 * 4):(Slot.has (LV xs)).holds (.slice (gY w.heap.size 0) 1 1) (w.alloc (.cells cs 89)):=by
 refine⟨_,rfl,?_⟩;have:=Rd.lit w 89 cs (n:=1) (sz:=4) hs gm;rw[h]at this;exact this.more gj
instance:Inhabited Vl:=⟨.none⟩
instance:Inhabited Sn:=⟨⟨0,0,0,0,0,0,[]⟩⟩
instance:Inhabited Nl:=⟨⟨default,none,0⟩⟩
instance:Inhabited Sl:=⟨⟨0,[],none,0⟩⟩
def CT (ss:List Ps) (ns:List Sn) (cur:Nat) (s:Ps):Nat:=if 16<=ss.length then 4 else if B7 (ss++[s]) ns cur=true then 0 else 1
def Ib (w:World) (ss:List Ps) (ns:List Sn) (cur:UInt64) (ids:List UInt64):Ending->World->Prop:=
 if Df ns cur ids=0 then DT w 0 ss (ns.filter λs=>!DU ids s.id) cur.toNat else DT w (Df ns cur ids) [] [] 0
