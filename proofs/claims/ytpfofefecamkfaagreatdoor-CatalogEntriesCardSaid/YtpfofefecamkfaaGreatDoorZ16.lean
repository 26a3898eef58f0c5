/- For CatalogEntries. -/
import Derived.Test.YtpfofefecamkfaaGreatDoorZ5
import Derived.Test.YtpfofefecamkfaaGreatDoorZ14
namespace Go.Proofs.YtpfofefecamkfaaGreatDoor
open Go.RowKit Proofs.Tryz
set_option maxRecDepth 100000
set_option maxHeartbeats 16000000
set_option linter.all false
theorem XJ (w A c l)(h:EnR w w.heap.size A c l):
 Calls prog 50 #[.slice A l.length c] w λe w'=>∃g,e = .returned (.bool g)/\(g=false->SmE l)/\Below w.heap.size w w':=by
 have af:l.length<=9223372036854775807:=by have h3:=h.row.le;have h4:=h.row.cap;unfold maxLen at h4;omega
 by_cases h2:200<l.length
 .have t7:=gG 200 l.length;clear h2;go_enter func50,ntmps50;go_wp2_with fail
  go_ret;exact⟨true,rfl,(λq=>gu),AC _ _⟩
 have t7:=gH 200 l.length;have O:ga (l.length<=200):=AB gd;clear h2;go_enter func50,ntmps50;go_wp2_with fail
 go_loopw [3] (λiv wr=>∃k:Nat,iv = io k/\k<=l.length/\ga (∀j,j<k->(l.getD j default).p.name.size<=500/\(l.getD j default).p.stats.length<=50)/\w=wr) (λiv _=>l.length-(intOf iv).toNat);case atStart=>exact⟨0,rfl,AU _,AB (λj hj=>gd),rfl⟩
 case round=>
  obtain⟨k,rfl,hk,hf,rfl⟩:=hrel;by_cases I:k<l.length
  .obtain⟨gb,off,rfl,ag,hc⟩:=h.row.elA I;have G:=h.ins (l.getD k default) (B9 I);obtain⟨x,hx⟩:=ia (l.getD k default);obtain⟨a0,a1,a2,a3,a4,a5⟩:=hc x hx;rw[hx]at G;have HX:=AB hx;have ah:x.p.stats.length<=9223372036854775807:=by have h3:=G.le;have h4:=G.cap;unfold maxLen at h4;omega
   clear hc hx;by_cases hn:500<x.p.name.size
   .have Z:=gG 500 x.p.name.size;clear hn;(go_wp2_with fail);go_ret;exact⟨true,rfl,(λq=>gu),AC _ _⟩
   have Z:=gH 500 x.p.name.size;have HN:ga (x.p.name.size<=500):=AB gd;clear hn;by_cases hs:50<x.p.stats.length
   .have aa:=gG 50 x.p.stats.length;clear hs;(go_wp2_with fail);go_ret;exact⟨true,rfl,(λq=>gu),AC _ _⟩
   have aa:=gH 50 x.p.stats.length;have ab:ga ((l.getD k default).p.name.size<=500/\(l.getD k default).p.stats.length<=50):=AB ⟨by rw[HX.o];exact HN.o,by rw[HX.o];omega⟩;clear hs;generalize x.p.stats=sts at *;generalize x.A=SA at *;(go_wp2_with fail);go_loopw [4] (λiv wr=>∃m:Nat,iv = io m/\m<=sts.length/\w=wr) (λiv _=>sts.length-(intOf iv).toNat);case atStart=>exact⟨0,rfl,AU _,rfl⟩
   case round=>
    obtain⟨m,rfl,hm,rfl⟩:=hrel;by_cases T:m<sts.length
    .obtain⟨sb,so,rfl,ai,V⟩:=G.stA T;obtain⟨s,hs⟩:=ia (sts.getD m default);obtain⟨_,_,_,_,_,_,b6,_,_,b9⟩:=V s hs;clear V hs;by_cases h6:500<s.mn.s.size
     .have ad:=gG 500 s.mn.s.size;clear h6;(go_wp2_with fail);go_ret;exact⟨true,rfl,(λq=>gu),AC _ _⟩
     have ad:=gH 500 s.mn.s.size;clear h6;by_cases h9:500<s.mx.s.size
     .have ae:=gG 500 s.mx.s.size;clear h9;(go_wp2_with fail);go_ret;exact⟨true,rfl,(λq=>gu),AC _ _⟩
     have ae:=gH 500 s.mx.s.size;clear h9;(go_wp2_with fail);go_roundw;case rel=>exact⟨m+1,by go_num,T,trivial⟩
     case measure=>simp[intOf];omega
    (go_wp2_with fail);go_roundw;case rel=>
     refine⟨k+1,by go_num,I,AB λj hj=>?_,trivial⟩;rcases Nat.lt_or_ge j k with q|q
     .exact hf.o j q
     obtain rfl:j=k:=gd;exact ab.o
    case measure=>simp[intOf];omega
  go_wp2_with fail
  go_ret;refine⟨false,rfl,(λ_=>⟨O.o,λx hx=>?_⟩),AC _ _⟩;obtain⟨j,hj,rfl⟩:=List.getElem_of_mem hx;have:=hf.o j gd;rw[DV _ _ hj]at this;exact this
theorem Xv (w B c A l)(ho:dQ w B A c l)(hB:B<=w.heap.size)(hmax:l.length<=1000000)(fn lb p)(eg:∀args w,(callFunc fn args).run prog w = .ok (.enter fn args) w)(hp:∀g,B<=g->Jr w g fn lb p):
 Calls prog 98 #[.slice A l.length c,.func (.func fn) #[] lb] w λe w'=>∃A2 c2,e = .returned (.slice A2 (l.filter λf=>!p f).length c2)/\dQ w' B A2 c2 (l.filter λf=>!p f)/\∃g,B<=g/\Oth g w w':=by
 rcases ho.any with ⟨rfl,rfl,rfl⟩|⟨g,rfl,hg,G⟩
 .refine(Wh w fn lb p eg (hp w.heap.size hB)).mono ?_;rintro e w' ⟨rfl,hb⟩;exact⟨none,0,rfl,dQ.nil _ _,w.heap.size,hB,Oth.of hb⟩
 refine(Wg w B g c l ho.own hmax fn lb p eg (hp g hg)).mono ?_;rintro e w' ⟨l',rfl,rfl,ho',hoth⟩;exact⟨_,c,rfl,⟨ho',λx hx=>JJ (ho.ins x (List.mem_filter.1 hx).1) ho.own hoth gm⟩,g,hg,hoth⟩
theorem SL (w P o)(h:OpQ w P o):Calls prog 16 #[.agg #[ip o.kind.toNat,.bool o.who,.bool o.d.rew,.slice o.fA o.d.fs.length o.fc,.slice o.aA o.al.length o.ac,.slice o.dA o.d.drops.length o.dc,il o.d.off.toNat,il o.d.tim.toNat,.string o.nm,ip o.shape.toNat,.slice o.iA o.ids.length o.ic,.slice o.bA o.bs.length o.bc,io o.n,.slice o.kA o.keep.length o.kc]] w (MV w o):=by
 obtain⟨y,G⟩:=gZ w #[ip o.kind.toNat,.bool o.who,.bool o.d.rew,.slice o.fA o.d.fs.length o.fc,.slice o.aA o.al.length o.ac,.slice o.dA o.d.drops.length o.dc,il o.d.off.toNat,il o.d.tim.toNat,.string o.nm,ip o.shape.toNat,.slice o.iA o.ids.length o.ic,.slice o.bA o.bs.length o.bc,io o.n,.slice o.kA o.keep.length o.kc] 58;have rf:=(h.f.low G);have af:=(h.dr.low G);have rb:=(h.b.low G);have ra:=h.a.low G;have mf:o.d.fs.length<=9223372036854775807:=by have h1:=h.f.rd.le;have h2:=h.f.rd.cap;unfold maxLen at h2;omega
 have ma:o.al.length<=9223372036854775807:=by have h1:=h.a.row.rd.le;have h2:=h.a.row.rd.cap;unfold maxLen at h2;omega
 have md:o.d.drops.length<=9223372036854775807:=by have h1:=h.dr.rd.le;have h2:=h.dr.rd.cap;unfold maxLen at h2;omega
 have mi:o.ids.length<=9223372036854775807:=by have h1:=h.i.rd.le;have h2:=h.i.rd.cap;unfold maxLen at h2;omega
 have mb:o.bs.length<=9223372036854775807:=by have h1:=h.b.rd.le;have h2:=h.b.rd.cap;unfold maxLen at h2;omega
 have mn:=h.nm;clear h;go_enter func16,ntmps16;go_upto_region 1 with fail
 generalize w.alloc _=w1 at *;obtain⟨bx,aa⟩:∃b,b=w.heap.size:=⟨_,rfl⟩;rw[<-aa]at y ⊢;have ay:=AB aa;clear aa;have c3:=y.cell 3 _ rfl;have c4:=y.cell 4 _ rfl;have c5:=y.cell 5 _ rfl;have c8:=y.cell 8 _ rfl;have O:=y.cell 10 _ rfl;have T:=y.cell 11 _ rfl;have HB:=AB G;have ao:=AB ra;have ap:=AB rf;have aq:=AB af;have ar:=AB rb;have HY:=AB y;clear G ra rf af rb y;by_cases h1:20<o.d.fs.length
 .have t1:=gG 20 o.d.fs.length;go_wp2_with fail
  go_ret;exact⟨true,rfl,λq=>gu,HB.o⟩
 have t1:=gH 20 o.d.fs.length;have hg:=Wu w1 0 o.d.fs.length o.fc o.fA o.d.fs ap.o.rd;have ag:=λW (hW:Below w1.heap.size w1 W)=>XJ W o.aA o.ac o.al (ao.o.low hW).en;have au:=AB ag;clear ag;go_wp2_with fail
 refine hg.mono ?_;rintro e w2 ⟨g2,rfl,hsm2,hb2⟩;clear hg;have av:=AB hsm2;clear hsm2;have y2:=HY.o.keep hb2 HY.o.z;have ab:=AB hb2;have I:=AB (AM HB.o HB.o.size hb2);clear HB;have HB:=I;clear I hb2 c3 c4 c5 c8 O T;have c3:=y2.cell 3 _ rfl;have c4:=y2.cell 4 _ rfl;have c5:=y2.cell 5 _ rfl;have c8:=y2.cell 8 _ rfl;have O:=y2.cell 10 _ rfl;have T:=y2.cell 11 _ rfl;have ah:=AB y2;clear y2;cases g2 with
 | true=>
   (go_wp2_with fail);go_ret;exact⟨true,rfl,λq=>gu,HB.o⟩
 | false=>
   by_cases h3:70<o.al.length
   .have t3:=gG 70 o.al.length;(go_wp2_with fail);go_ret;exact⟨true,rfl,λq=>gu,HB.o⟩
   have t3:=gH 70 o.al.length;have hg:=au.o w2 ab.o;(go_wp2_with fail);refine hg.mono ?_;rintro e w3 ⟨g4,rfl,hsm4,hb3⟩;clear hg;have aw:=AB hsm4;clear hsm4;have y3:=ah.o.keep hb3 ah.o.z;have ad:=AB (AM ab.o ab.o.size hb3);have I:=AB (AM HB.o (AS HB.o.size (AD _)) hb3);clear HB;have HB:=I;clear I hb3 c3 c4 c5 c8 O T;have c3:=y3.cell 3 _ rfl;have c4:=y3.cell 4 _ rfl;have c5:=y3.cell 5 _ rfl;have c8:=y3.cell 8 _ rfl;have O:=y3.cell 10 _ rfl;have T:=y3.cell 11 _ rfl;have az:=AB y3;clear y3;cases g4 with
   | true=>
     (go_wp2_with fail);go_ret;exact⟨true,rfl,λq=>gu,HB.o⟩
   | false=>
     by_cases h5:50<o.d.drops.length
     .have t5:=gG 50 o.d.drops.length;(go_wp2_with fail);go_ret;exact⟨true,rfl,λq=>gu,HB.o⟩
     have t5:=gH 50 o.d.drops.length;by_cases h6:50<o.ids.length
     .have t6:=gG 50 o.ids.length;(go_wp2_with fail);go_ret;exact⟨true,rfl,λq=>gu,HB.o⟩
     have t6:=gH 50 o.ids.length;by_cases h7:2000<o.bs.length
     .have t7:=gG 2000 o.bs.length;(go_wp2_with fail);go_ret;exact⟨true,rfl,λq=>gu,HB.o⟩
     have t7:=gH 2000 o.bs.length;by_cases h8:500<o.nm.size
     .have t8:=gG 500 o.nm.size;(go_wp2_with fail);go_ret;exact⟨true,rfl,λq=>gu,HB.o⟩
     have t8:=gH 500 o.nm.size;have HN:=gV h1 h3 h5 h6 h7 h8;have rb:=(ar.o.rd.below ad.o).more ad.o.size;have rd:=aq.o.rd.below ad.o;have ai:=AB rd;clear h1 h3 h6 h8 rd mf ma mi mn;(go_upto_region 3 with fail);go_cut [71] from 54 to 71 (λv wx=>∃b:Bool,v = .bool b/\ga (Ip b (o.bs.take 3))/\w3=wx);case first=>
      by_cases h3:o.bs.length<3
      .have t9:=gJ 3 o.bs.length;have hx:ga (Ip false (o.bs.take 3)):=AB (λ_=>⟨λq=>by have:=congrArg List.length q;simp at this;omega,λq=>by have:=congrArg List.length q;simp at this;omega⟩);clear h3 h7 rb mb;(go_wp2_with fail);go_meet;exact⟨_,rfl,hx,rfl⟩
      have t9:=gI 3 o.bs.length;have aj:=rb.le;have u1:=λk W=>Ev (P:=prog) As o.bA o.bs.length o.bc k (3:Int) 3 rfl gd W;have u2:=λk W=>EN (P:=prog) As o.bA o.bs.length o.bc k (3:Int) 3 rfl gd W;have V:Rd w3 w3.heap.size 1 o.bA 3 o.bc (AO (o.bs.take 3)):=by
       have:=rb.pre (hi:=3) gd;simpa [AO,List.map_take]using this
      have ax:=Eb (P:=prog) w3 underlying55 underlying5 underlying9 V;have q1:=SK (o.bs.take 3) [84,70,49];have q2:=SK (o.bs.take 3) [77,70,49];clear V h3 h7 rb mb aj;generalize o.bs.take 3=pre at *;clear q1 q2;by_cases e1:pre=[84,70,49]
      .have hx:ga (Ip true pre):=AB (λq=>gu);(go_wp2_with fail);go_meet;exact⟨_,rfl,hx,rfl⟩
      by_cases e2:pre=[77,70,49]
      .have hx:ga (Ip true pre):=AB (λq=>gu);(go_wp2_with fail);go_meet;exact⟨_,rfl,hx,rfl⟩
      have hx:ga (Ip (pre==[84,70,49]||pre==[77,70,49]) pre):=AB (λ_=>⟨e1,e2⟩);(go_wp2_with fail);go_meet;exact⟨_,rfl,hx,rfl⟩
     case rest=>
      obtain⟨b,rfl,ak,rfl⟩:=hcut;cases b with
      | true=>
        clear h7 rb mb;(go_wp2_with fail);go_ret;exact⟨true,rfl,λq=>gu,HB.o⟩
      | false=>
        clear h7 rb mb;(go_wp2_with fail);go_loop [3] (λiv=>∃k:Nat,iv = io k/\k<=o.d.drops.length/\ga (∀j,j<k->(o.d.drops.getD j default).size<=500)) (λiv=>o.d.drops.length-(intOf iv).toNat);case atStart=>exact⟨0,rfl,AU _,AB (λj hj=>gd)⟩
        case round=>
         obtain⟨k,rfl,hk,Z⟩:=hrel;by_cases am:k<o.d.drops.length
         .obtain⟨b,off,hA,_,hs⟩:=ai.o.st am;have ae:=c5;rw[hA]at ae;clear c5;have c5:=ae;clear ae;have HA:=AB hA;clear hA;generalize hx:o.d.drops.getD k default=x at *;have HX:=AB hx;clear hx;by_cases h9:500<x.size
          .have t9:=gG 500 x.size;clear h9;(go_wp2_with fail);go_ret;exact⟨true,rfl,λq=>gu,HB.o⟩
          have t9:=gH 500 x.size;(go_wp2_with fail);go_round;case rel=>
           refine⟨k+1,by go_num,am,AB (λj hj=>?_)⟩;by_cases e:j=k
           .rw[e,HX.o];omega
           exact Z.o j gd
          case measure=>simp[intOf];omega
         (go_wp2_with fail);go_ret;refine⟨false,rfl,λ_=>⟨by have:=HN.o.1;omega,av.o trivial,by have:=HN.o.2.1;omega,aw.o trivial,by have:=HN.o.2.2.1;omega,by have:=HN.o.2.2.2.1;omega,by have:=HN.o.2.2.2.2.1;omega,by have:=HN.o.2.2.2.2.2;omega,(ak.o rfl).1,(ak.o rfl).2,λx hx=>?_⟩,HB.o⟩;obtain⟨j,hj,rfl⟩:=EZ.1 hx;have h2:=Z.o j gd;rw[BW,BF hj]at h2;exact h2
section
open Go.ChangeShapes Go.WideShapes Go.ChangeAt Go.RowKit Go.Deep Go.Joins
structure Dl where
 d:Dr
 al:List El
 fA:Option Addr
 fc:Nat
 aA:Option Addr
 ac:Nat
 dA:Option Addr
 dc:Nat
instance:Inhabited Dl:=⟨⟨⟨false,[],[],[],0,0⟩,[],none,0,none,0,none,0⟩⟩
def dlV (o:Dl):List Value:=[.bool o.d.rew,.slice o.fA o.d.fs.length o.fc,.slice o.aA o.al.length o.ac,.slice o.dA o.d.drops.length o.dc,il o.d.off.toNat,il o.d.tim.toNat]
structure DlR (w:World) (o:Dl):Prop where
 f:Rd w w.heap.size 4 o.fA o.d.fs.length o.fc (AZ o.d.fs)
 a:EnR w w.heap.size o.aA o.ac o.al
 e:o.al.map El.p=o.d.adds
 dr:Rd w w.heap.size 1 o.dA o.d.drops.length o.dc (AY o.d.drops)
theorem EnQ.ofEn {w P A c l}(h:EnR w w.heap.size A c l)(hP:∀k,k<w.heap.size->P k):EnQ w P A c l:=⟨.ofRd h.row (AD _) hP,λx hx=>.ofRd (h.ins x hx) (AD _) hP⟩
structure OpQ0 (w:World) (o:Op15):Prop where
 f:Rd w w.heap.size 4 o.fA o.d.fs.length o.fc (AZ o.d.fs)
 a:EnR w w.heap.size o.aA o.ac o.al
 e:o.al.map El.p=o.d.adds
 dr:Rd w w.heap.size 1 o.dA o.d.drops.length o.dc (AY o.d.drops)
 i:Rd w w.heap.size 1 o.iA o.ids.length o.ic (CY o.ids)
 b:Rd w w.heap.size 1 o.bA o.bs.length o.bc (AO o.bs)
 k:Rd w w.heap.size 1 o.kA o.keep.length o.kc (o.keep.map (.int .i64))
 n0 : -9223372036854775808<=o.n
 n1:o.n<=9223372036854775807
 nm:o.nm.size<=9223372036854775807
def Fk (o:Op15):List Value:=[ip o.kind.toNat,.bool o.who,.bool o.d.rew,.slice o.fA o.d.fs.length o.fc,.slice o.aA o.al.length o.ac,.slice o.dA o.d.drops.length o.dc,il o.d.off.toNat,il o.d.tim.toNat,.string o.nm,ip o.shape.toNat,.slice o.iA o.ids.length o.ic,.slice o.bA o.bs.length o.bc,io o.n,.slice o.kA o.keep.length o.kc]
theorem MW (o):(Fk o).length=14:=rfl
def MX (l:List Op15):List Value:=l.flatMap Fk
section
variable {H:Type} {enc:TypeId×Value->H} {w:World} {base:Nat} {spare:Nat->Bool} {held:Bool} {fuel:Nat}
theorem KI {α:Type}{cs:List α}(h:cs.length=1):∃a,cs=[a]:=by
 match cs,h with
 | [a],_=>exact⟨a,rfl⟩
theorem ex {α:Type}{cs:List α}(h:cs.length=4):∃a b c d,cs=[a,b,c,d]:=by
 match cs,h with
 | [a,b,c,d],_=>exact⟨a,b,c,d,rfl⟩
theorem ey {α:Type}{cs:List α}(h:cs.length=6):∃a b c d e f,cs=[a,b,c,d,e,f]:=by
 match cs,h with
 | [a,b,c,d,e,f],_=>exact⟨a,b,c,d,e,f,rfl⟩
theorem ez {α:Type}{cs:List α}(h:cs.length=14):∃a b c d e f g h i j k l m n,cs=[a,b,c,d,e,f,g,h,i,j,k,l,m,n]:=by
 match cs,h with
 | [a,b,c,d,e,f,g,h,i,j,k,l,m,n],_=>exact⟨a,b,c,d,e,f,g,h,i,j,k,l,m,n,rfl⟩
theorem KJ {α:Type}(f : α->Value)(l:List α):(l.flatMap λa=>[f a])=l.map f:=by
 induction l with
 | nil=>rfl
 | cons a l ih=>rw[List.flatMap_cons,ih];rfl
theorem fB:prog.cellsOf 89=4:=gh
theorem SM:prog.cellsOf 9=1:=gh
theorem fC:prog.cellsOf 4=1:=gh
theorem fD:prog.cellsOf 35=1:=gh
theorem SN:prog.cellsOf 5=1:=gh
theorem SO:prog.cellsOf 3=1:=gh
theorem SP:prog.cellsOf 48=6:=gh
theorem fE:prog.cellsOf 58=14:=gh
theorem fF {cs x}(hl:cs.length=4)(h:DataW.trod enc prog w base spare held fuel 89 cs=some x):∃f:Fd,cs=fdV f:=by
 obtain⟨n,hf⟩:=JO underlying89 gh h hl;obtain⟨c0,c1,c2,c3,rfl⟩:=ex hl;obtain⟨y0,h0⟩:=hf 0 _ c0 rfl rfl;obtain⟨y1,h1⟩:=hf 1 _ c1 rfl rfl;obtain⟨y2,h2⟩:=hf 2 _ c2 rfl rfl;obtain⟨y3,h3⟩:=hf 3 _ c3 rfl rfl;obtain⟨a0,e0,_,w0⟩:=DQ underlying30 h0;obtain⟨a1,e1,_,_⟩:=DataW.trod_string underlying9 h1;obtain⟨a2,e2,_,w2⟩:=DQ underlying84 h2;obtain⟨a3,e3,_⟩:=DataW.trod_bool underlying4 h3;injection e0 with e0;injection e1 with e1;injection e2 with e2;injection e3 with e3;subst e0 e1 e2 e3;have:=bounds_u32 w0;have:=bounds_u8 w2;refine⟨⟨UInt32.ofNat a0.toNat,a1,UInt8.ofNat a2.toNat,a3⟩,?_⟩;have q0:((UInt32.ofNat a0.toNat).toNat:Int)=a0:=by rw[UInt32.toNat_ofNat'];omega
 have q2:((UInt8.ofNat a2.toNat).toNat:Int)=a2:=by rw[UInt8.toNat_ofNat'];omega
 simp only[fdV,q0,q2]
theorem fG {cs x}(h:DataW.trod enc prog w base (λ_=>true) held fuel 31 cs=some x):∃(A:Option Addr) (c:Nat) (l:List Fd),cs=[.slice A l.length c]/\Rd w w.heap.size 4 A l.length c (AZ l):=by
 obtain⟨A,n,c,l,e,hr,_⟩:=Fx fdV 4 (λ_=>rfl) underlying31 fB gd (λ_=>True) (λF cs x hl h=>by obtain⟨f,hf⟩:=fF hl h;exact⟨f,hf,trivial⟩) h;obtain rfl:=Rd.lenF hr;exact⟨A,c,l,e,hr⟩
theorem fH {cs x}(h:DataW.trod enc prog w base (λ_=>true) held fuel 41 cs=some x):∃(A:Option Addr) (c:Nat) (l:List ByteArray),cs=[.slice A l.length c]/\Rd w w.heap.size 1 A l.length c (AY l):=by
 obtain⟨A,n,c,l,e,hr,_⟩:=Fx (λa:ByteArray=>[Value.string a]) 1 (λ_=>rfl) underlying41 SM gd (λ_=>True) (λF cs x hl h=>by
  obtain⟨c0,rfl⟩:=KI hl;obtain⟨a0,e0,_,_⟩:=DataW.trod_string underlying9 h;injection e0 with e0;subst e0;exact⟨a0,rfl,trivial⟩) h
 rw[KJ]at hr;have hr:Rd w w.heap.size 1 A n c (AY l):=hr;obtain rfl:=Rd.lenT hr;exact⟨A,c,l,e,hr⟩
theorem fI {cs x}(h:DataW.trod enc prog w base (λ_=>true) held fuel 54 cs=some x):∃(A:Option Addr) (c:Nat) (l:List UInt64),cs=[.slice A l.length c]/\Rd w w.heap.size 1 A l.length c (CY l):=by
 obtain⟨A,n,c,l,e,hr,_⟩:=Fx (λa:UInt64=>[Value.int .u64 a.toNat]) 1 (λ_=>rfl) underlying54 fD gd (λ_=>True) (λF cs x hl h=>by
  obtain⟨c0,rfl⟩:=KI hl;obtain⟨a0,e0,_,w0⟩:=DQ underlying35 h;injection e0 with e0;subst e0;have b0:=bounds_u64 w0;refine⟨UInt64.ofNat a0.toNat,?_,trivial⟩;have q0:((UInt64.ofNat a0.toNat).toNat:Int)=a0:=by rw[UInt64.toNat_ofNat'];omega
  simp only[q0]) h
 rw[KJ]at hr;obtain rfl:n=l.length:=by have:=hr.len;simp at this;omega
 exact⟨A,c,l,e,hr⟩
theorem fJ {cs x}(h:DataW.trod enc prog w base (λ_=>true) held fuel 55 cs=some x):
 ∃(A:Option Addr) (c:Nat) (l:List UInt8),cs=[.slice A l.length c]/\Rd w w.heap.size 1 A l.length c (AO l):=by
 obtain⟨A,n,c,l,e,hr,_⟩:=Fx (λa:UInt8=>[DG a]) 1 (λ_=>rfl) underlying55 SN gd (λ_=>True) (λF cs x hl h=>by
  obtain⟨c0,rfl⟩:=KI hl;obtain⟨a0,e0,_,w0⟩:=DQ underlying5 h;injection e0 with e0;subst e0;have b0:=bounds_u8 w0;refine⟨UInt8.ofNat a0.toNat,?_,trivial⟩;have q0:((UInt8.ofNat a0.toNat).toNat:Int)=a0:=by rw[UInt8.toNat_ofNat'];omega
  simp only[DG,q0]) h
 rw[KJ]at hr;obtain rfl:n=l.length:=by have:=hr.len;simp at this;omega
 exact⟨A,c,l,e,hr⟩
theorem fK {cs x}(h:DataW.trod enc prog w base (λ_=>true) held fuel 56 cs=some x):
 ∃(A:Option Addr) (c:Nat) (l:List Int),cs=[.slice A l.length c]/\Rd w w.heap.size 1 A l.length c (l.map (.int .i64)):=by
 obtain⟨A,n,c,l,e,hr,_⟩:=Fx (λa:Int=>[Value.int .i64 a]) 1 (λ_=>rfl) underlying56 SO gd (λ_=>True) (λF cs x hl h=>by
  obtain⟨c0,rfl⟩:=KI hl;obtain⟨a0,e0,_,w0⟩:=DQ underlying3 h;injection e0 with e0;subst e0;exact⟨a0,rfl,trivial⟩) h
 rw[KJ]at hr;obtain rfl:n=l.length:=by have:=hr.len;simp at this;omega
 exact⟨A,c,l,e,hr⟩
theorem SQ {cs x}(hl:cs.length=6)(h:DataW.trod enc prog w base (λ_=>true) held fuel 48 cs=some x):∃o:Dl,cs=dlV o/\DlR w o:=by
 obtain⟨n,hf⟩:=JO underlying48 gh h hl;obtain⟨c0,c1,c2,c3,c4,c5,rfl⟩:=ey hl;obtain⟨y0,h0⟩:=hf 0 _ c0 rfl rfl;obtain⟨y1,h1⟩:=hf 1 _ c1 rfl rfl;obtain⟨y2,h2⟩:=hf 2 _ c2 rfl rfl;obtain⟨y3,h3⟩:=hf 3 _ c3 rfl rfl;obtain⟨y4,h4⟩:=hf 4 _ c4 rfl rfl;obtain⟨y5,h5⟩:=hf 5 _ c5 rfl rfl;obtain⟨a0,e0,_⟩:=DataW.trod_bool underlying4 h0;obtain⟨A1,k1,l1,e1,r1⟩:=fG h1;obtain⟨A2,k2,l2,e2,r2,_⟩:=XU h2;obtain⟨A3,k3,l3,e3,r3⟩:=fH h3;obtain⟨a4,e4,_,w4⟩:=DQ underlying35 h4;obtain⟨a5,e5,_,w5⟩:=DQ underlying35 h5;simp only[List.cons.injEq,and_true]at e0 e1 e2 e3 e4 e5;subst e0 e1 e2 e3 e4 e5;have:=bounds_u64 w4;have:=bounds_u64 w5;have q4:((UInt64.ofNat a4.toNat).toNat:Int)=a4:=by rw[UInt64.toNat_ofNat'];omega
 have q5:((UInt64.ofNat a5.toNat).toNat:Int)=a5:=by rw[UInt64.toNat_ofNat'];omega
 refine⟨⟨⟨a0,l1,l2.map El.p,l3,UInt64.ofNat a4.toNat,UInt64.ofNat a5.toNat⟩,l2,A1,k1,A2,k2,A3,k3⟩,?_,⟨r1,r2,rfl,r3⟩⟩;simp only[dlV,q4,q5]
theorem fL {cs x}(hl:cs.length=14)(h:DataW.trod enc prog w base (λ_=>true) held fuel 58 cs=some x):∃o:Op15,cs=Fk o/\OpQ0 w o:=by
 obtain⟨n,hf⟩:=QX underlying58 h;obtain⟨c0,c1,c2,c3,c4,c5,c6,c7,c8,c9,G,I,O,T,rfl⟩:=ez hl;obtain⟨y0,h0⟩:=hf 0 _ rfl;obtain⟨y1,h1⟩:=hf 1 _ rfl;obtain⟨y2,h2⟩:=hf 2 _ rfl;obtain⟨y3,h3⟩:=hf 3 _ rfl;obtain⟨y4,h4⟩:=hf 4 _ rfl;obtain⟨y5,h5⟩:=hf 5 _ rfl;obtain⟨y6,h6⟩:=hf 6 _ rfl;obtain⟨y7,h7⟩:=hf 7 _ rfl;obtain⟨y8,h8⟩:=hf 8 _ rfl;have V:prog.cellsOf 54=1:=gh;have aa:prog.cellsOf 55=1:=gh;have Z:prog.cellsOf 56=1:=gh;replace h0:DataW.trod enc prog w base (λ_=>true) held n 5 (([c0,c1,c2,c3,c4,c5,c6,c7,c8,c9,G,I,O,T].drop 0).take (prog.cellsOf 5))=some y0:=h0;replace h1:DataW.trod enc prog w base (λ_=>true) held n 4 (([c0,c1,c2,c3,c4,c5,c6,c7,c8,c9,G,I,O,T].drop 1).take (prog.cellsOf 4))=some y1:=h1;replace h2:DataW.trod enc prog w base (λ_=>true) held n 48 (([c0,c1,c2,c3,c4,c5,c6,c7,c8,c9,G,I,O,T].drop 2).take (prog.cellsOf 48))=some y2:=h2;replace h3:DataW.trod enc prog w base (λ_=>true) held n 9 (([c0,c1,c2,c3,c4,c5,c6,c7,c8,c9,G,I,O,T].drop 8).take (prog.cellsOf 9))=some y3:=h3;replace h4:DataW.trod enc prog w base (λ_=>true) held n 5 (([c0,c1,c2,c3,c4,c5,c6,c7,c8,c9,G,I,O,T].drop 9).take (prog.cellsOf 5))=some y4:=h4;replace h5:DataW.trod enc prog w base (λ_=>true) held n 54 (([c0,c1,c2,c3,c4,c5,c6,c7,c8,c9,G,I,O,T].drop 10).take (prog.cellsOf 54))=some y5:=h5;replace h6:DataW.trod enc prog w base (λ_=>true) held n 55 (([c0,c1,c2,c3,c4,c5,c6,c7,c8,c9,G,I,O,T].drop 11).take (prog.cellsOf 55))=some y6:=h6;replace h7:DataW.trod enc prog w base (λ_=>true) held n 3 (([c0,c1,c2,c3,c4,c5,c6,c7,c8,c9,G,I,O,T].drop 12).take (prog.cellsOf 3))=some y7:=h7;replace h8:DataW.trod enc prog w base (λ_=>true) held n 56 (([c0,c1,c2,c3,c4,c5,c6,c7,c8,c9,G,I,O,T].drop 13).take (prog.cellsOf 56))=some y8:=h8;simp only[V,aa,Z,SN,fC,SP,SM,SO,List.drop_zero,List.drop_succ_cons,EL,List.take_zero]at h0 h1 h2 h3 h4 h5 h6 h7 h8;obtain⟨a0,e0,_,w0⟩:=DQ underlying5 h0;obtain⟨a1,e1,_⟩:=DataW.trod_bool underlying4 h1;obtain⟨⟨d,al,fA,fc,aA,ac,dA,dc⟩,e2,r2⟩:=SQ rfl h2;obtain⟨a3,e3,_,w3⟩:=DataW.trod_string underlying9 h3;obtain⟨a4,e4,_,w4⟩:=DQ underlying5 h4;obtain⟨A5,k5,l5,e5,r5⟩:=fI h5;obtain⟨A6,k6,l6,e6,r6⟩:=fJ h6;obtain⟨a7,e7,_,w7⟩:=DQ underlying3 h7;obtain⟨A8,k8,l8,e8,r8⟩:=fK h8;simp only[dlV,List.cons.injEq,and_true]at e0 e1 e2 e3 e4 e5 e6 e7 e8;obtain⟨ab,ad,ae,af,ag,ah⟩:=e2;subst e0 e1 ab ad ae af ag ah e3 e4 e5 e6 e7 e8;have:=bounds_u8 w0;have:=bounds_u8 w4;have b7:=bounds_i64 w7;have q0:((UInt8.ofNat a0.toNat).toNat:Int)=a0:=by rw[UInt8.toNat_ofNat'];omega
 have q4:((UInt8.ofNat a4.toNat).toNat:Int)=a4:=by rw[UInt8.toNat_ofNat'];omega
 refine⟨⟨UInt8.ofNat a0.toNat,a1,d,a3,UInt8.ofNat a4.toNat,l5,l6,a7,l8,al,fA,fc,aA,ac,dA,dc,A5,k5,A6,k6,A8,k8⟩,?_,⟨r2.f,r2.a,r2.e,r2.dr,r5,r6,r8,b7.1,b7.2,by show a3.size<=_;unfold maxLen at w3;omega⟩⟩;simp only[Fk,q0,q4]
end
end
