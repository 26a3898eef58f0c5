/- For CatalogEntries. -/
import Derived.Test.YtpfofefecamkfaaGreatDoorRows
import Derived.Lib.LaidU8
import Derived.Lay
import Derived.MakeChecks
import Derived.Deep.DeepWitnessRowRef
import Derived.Test.YtpfofefecamkfaaGreatDoorZ4
namespace Go.Proofs.YtpfofefecamkfaaGreatDoor
open Go.RowKit Proofs.Tryz
set_option maxRecDepth 100000
set_option maxHeartbeats 16000000
set_option linter.all false
namespace Var
theorem Wq (n):val (put n)=n:=by
 induction n using Nat.strongRecOn with
 | _ n ih=>
   by_cases h:n<128
   .rw[put_lt h];simp only[val];rw[toNat_ofNat_lt gd];omega
   rw[put_ge gd];simp only[val];rw[toNat_ofNat_lt gd,ih _ gd];omega
theorem Wr (n):∀rest,Ab (put n++rest)=(put n).length-1:=by
 induction n using Nat.strongRecOn with
 | _ n ih=>
   intro rest;by_cases h:n<128
   .rw[put_lt h];simp only[List.cons_append,CN,Ab];rw[AJ (by rw[toNat_ofNat_lt gd];exact h)];simp
   rw[put_ge gd];simp only[List.cons_append,Ab];rw[AE (by rw[toNat_ofNat_lt gd];omega),ih _ gd];have:=put_pos (n/128);simp;omega
theorem Ws (n):∀rest,((put n++rest).getD ((put n).length-1) 0).toNat=0->n=0:=by
 induction n using Nat.strongRecOn with
 | _ n ih=>
   intro rest;by_cases h:n<128
   .rw[put_lt h];simp only[List.cons_append,CN,Bg,List.length_nil,BL,Nat.sub_self,List.getD_cons_zero];rw[toNat_ofNat_lt gd];exact id
   rw[put_ge gd];have hp:=put_pos (n/128);intro hz;have:(UInt8.ofNat (n % 128+128)::put (n/128)).length-1=((put (n/128)).length-1)+1:=gt;rw[this,List.cons_append,List.getD_cons_succ]at hz;have:=ih (n/128) gd rest hz;omega
theorem Wt (k):∀(n:Nat) (rest:List UInt8),n<2 * 128^k->(put n).length=k+1->((put n++rest).getD ((put n).length-1) 0).toNat<=1:=by
 induction k with
 | zero=>
   intro n rest h hl;have h2:n<2:=by simpa using h
   rw[put_lt gd];simp only[List.cons_append,CN,Bg,List.length_nil,BL,Nat.sub_self,List.getD_cons_zero];rw[toNat_ofNat_lt gd];omega
 | succ k ih=>
   intro n rest h hl;by_cases h1:n<128
   .rw[put_lt h1]at hl;simp at hl
   rw[put_ge gd]at hl ⊢;have G:(put (n/128)).length=k+1:=by simpa using hl
   have:(UInt8.ofNat (n % 128+128)::put (n/128)).length-1=((put (n/128)).length-1)+1:=gt;rw[this,List.cons_append,List.getD_cons_succ];exact ih (n/128) rest (by rw[Nat.div_lt_iff_lt_mul gd];rw[Nat.pow_succ]at h;omega) G
theorem get_put {n}(h:n<18446744073709551616)(rest):get (put n++rest)=(n,(put n).length,0):=by
 have hp:=put_pos n;have I:=put_le10 h;have hl:=Wr n rest;rw[JA,hl];rw[AE gd,AE gt];have G:¬(((put n).length-1=9/\1<((put n++rest).getD ((put n).length-1) 0).toNat)\/(((put n++rest).getD ((put n).length-1) 0).toNat=0/\0<(put n).length-1)):=by
  rintro(⟨h9,h1⟩|⟨h0,h1⟩)
  .have:=Wt 9 n rest gd gd;omega
  have:=Ws n rest h0;subst this;simp[put_lt]at h1
 rw[AE G];have e:(put n).length-1+1=(put n).length:=gd;rw[e,List.take_left,Wq]
end Var
def Lf (l:List Fd):Prop:=l.length<=100/\∀j,j<l.length->(l.getD j default).name.size<5000
theorem Wu (w id n c A l)(hr:Rd w w.heap.size 4 A n c (AZ l)):
 Calls prog 49 #[.agg (dR id A n c)] w λe w'=>∃g,e = .returned (.bool g)/\(g=false->Lf l)/\Below w.heap.size w w':=by
 obtain rfl:=hr.lenF;have:l.length<=9223372036854775807:=by have h1:=hr.le;have h2:=hr.cap;unfold maxLen at h2;omega
 go_enter func49,ntmps49;go_wp2_with fail
 have x1:=Dc w (dR id A l.length c) 33;generalize O:w.alloc _=w1 at *;obtain⟨cs,_,zs,G⟩:=x1.lift (AC _ _);have:w1.cell? (gX w.heap.size 1)=some (.slice A l.length c):=cs 1 _ rfl;have T:=(hr.below G).more G.size;clear O cs x1 hr;go_loopw [3,4] (λnv iv wr=>∃(k N:Nat),k<=l.length/\k<=100/\N<10000/\nv = io N/\iv = io k/\ga (∀j,j<k->(l.getD j default).name.size<5000\/5000<=N)/\w1=wr) (λ_ iv _=>l.length-(intOf iv).toNat);case atStart=>exact⟨0,0,AU _,gd,gd,rfl,rfl,AB (λj h=>gd),rfl⟩
 case round=>
  obtain⟨k,N,hk,V,hN,rfl,rfl,hf,rfl⟩:=hrel;by_cases Z:k<l.length/\k<100/\N<5000
  .obtain⟨h1,h2,h3⟩:=Z;have y2:=gG k 100;have y3:=gG N 5000;obtain⟨b,off,rfl,hb,_,q1,_,_⟩:=T.fd h1;generalize I:(l.getD k default).name=nm at *;have aa:=AB I;clear I;obtain⟨s,hs⟩:=ib (min nm.size 5000);have:min (nm.size:Int) 5000=(s:Int):=gd;have:s<=5000:=gd;have HS:=AB hs;clear hs;(go_wp2_with fail);go_roundw;case rel=>
    refine⟨k+1,N+s,h1,gd,gd,by go_num,by go_num,AB (λj hj=>?_),trivial⟩;by_cases e:j=k
    .rw[e,aa.o];have:=HS.o;omega
    rcases hf.o j gd with q|q
    .exact .inl q
    exact .inr gd
   case measure=>exact Co k _ h1
  by_cases h1:k<l.length
  .by_cases h2:k<100
   .have h3:5000<=N:=gd;have y2:=gG k 100;have y3:=gH N 5000;have y4:=gI 5000 N;by_cases h4:100<l.length
    .have y5:=gG 100 l.length;(go_wp2_with fail);go_ret;exact⟨_,rfl,(λh=>by cases h),G⟩
    have y5:=gH 100 l.length;(go_wp2_with fail);go_ret;exact⟨_,rfl,(λh=>by cases h),G⟩
   have y2:=gH k 100;have y5:=gG 100 l.length;(go_wp2_with fail);go_ret;exact⟨_,rfl,(λh=>by cases h),G⟩
  obtain rfl:k=l.length:=gd;have y5:=gH 100 l.length;by_cases h3:5000<=N
  .have y4:=gI 5000 N;(go_wp2_with fail);go_ret;exact⟨_,rfl,(λh=>by cases h),G⟩
  have y4:=gJ 5000 N;have ab:=AB (show Lf l from⟨V,λj hj=>(hf.o j hj).resolve_right h3⟩);go_wp2_with fail
  go_ret;exact⟨_,rfl,(λ_=>ab.o),G⟩
def Gq (l1 l2:List ByteArray):Bool:=decide (l1.length=l2.length)&&(List.range l1.length).all λj=>(l1.getD j default).toList==(l2.getD j default).toList
theorem Wv (w B n1 c1 n2 c2 A1 A2 l1 l2)(G:Rd w B 1 A1 n1 c1 (AY l1))(T:Rd w B 1 A2 n2 c2 (AY l2))(hB:B<=w.heap.size):
 Calls prog 20 #[.slice A1 n1 c1,.slice A2 n2 c2] w λe w'=>e = .returned (.bool (Gq l1 l2))/\Below w.heap.size w w':=by
 obtain rfl:=G.lenT;obtain rfl:=T.lenT;have:l1.length<=9223372036854775807:=by have:=G.le;have h2:=G.cap;unfold maxLen at h2;omega
 have G:=G.more hB;have T:=T.more hB;by_cases g2:l1.length=l2.length
 .have y2:=gO l1.length l2.length;have hs:Gq l1 l2=(List.range l1.length).all λj=>(l1.getD j default).toList==(l2.getD j default).toList:=by
   unfold Gq;rw[AF g2,CV]
  rw[hs];have HG:=AB g2;clear g2 hs;go_enter func20,ntmps20;go_wp2_with fail
  go_loopw [5] (λiv wr=>∃k:Nat,k<=l1.length/\iv = io k/\ga (∀j,j<k->((l1.getD j default).toList==(l2.getD j default).toList)=true)/\Below w.heap.size w wr) (λiv _=>l1.length-(intOf iv).toNat);case atStart=>exact⟨0,AU _,rfl,AB (λj h=>gd),AC _ _⟩
  case round=>
   obtain⟨k,hk,rfl,hf,I⟩:=hrel;by_cases V:k<l1.length
   .have Z:k<l2.length:=by have:=HG.o;omega
    obtain⟨b1,o1,rfl,ae,p0⟩:=(G.below I).st V;obtain⟨b2,o2,rfl,af,q0⟩:=(T.below I).st Z;generalize aa:l1.getD k default=f at *;generalize ab:l2.getD k default=f2 at *;have HF:=gR aa ab;clear aa ab;cases hq:f.toList==f2.toList with
    | true=>
      have HQ:=AB hq;(go_wp2_with fail);go_quiet (fail)
      (go_wp2_with fail);go_roundw;case rel=>
       refine⟨k+1,V,by go_num,AB (λj hj=>?_),CO I _⟩;by_cases e:j=k
       .rw[e,HF.o.1,HF.o.2];exact HQ.o
       exact hf.o j gd
      case measure=>simp[intOf];omega
    | false=>
      have O:ga (((List.range l1.length).all λj=>(l1.getD j default).toList==(l2.getD j default).toList)=false):=AB (FV V (by rw[HF.o.1,HF.o.2,hq]));(go_wp2_with fail);go_quiet (fail)
      (go_wp2_with fail);go_ret;exact⟨by rw[O.o];rfl,CO I _⟩
   obtain rfl:k=l1.length:=gd;have O:ga (((List.range l1.length).all λj=>(l1.getD j default).toList==(l2.getD j default).toList)=true):=AB (Gb hf.o);(go_wp2_with fail);go_ret;exact⟨by rw[O.o];rfl,I⟩
 have y2:=gM l1.length l2.length;have hs:Gq l1 l2=false:=by unfold Gq;rw[AG g2];rfl
 rw[hs];clear g2 hs;go_enter func20,ntmps20;go_wp2_with fail
 go_ret;exact⟨rfl,AC _ _⟩
theorem Ww (f l):By (f::l)=Fy f++By l:=rfl
theorem Hz {most n}(h:n<=most)(hm:most<18446744073709551616)(rest):num most (Var.put n++rest) 0=(n,rest,0):=by
 have hg:=Var.get_put (n:=n) gd rest;rw[NQ (by rw[hg]) (by rw[hg];omega),hg];simp
theorem Wx (b:Bool):[if b then (1:UInt8) else 0]=Var.put (if b then 1 else 0):=by
 cases b
 .rw[AE gj,AE gj,Var.put_lt gd];rfl
 rw[AJ rfl,AJ rfl,Var.put_lt gd];rfl
theorem Wy (f)(h:f.name.size<=16)(rest):rdF (Fy f++rest) 0=(f,rest,0):=by
 have:=f.id.toNat_lt;have:=f.kind.toNat_lt;have e1:Fy f++rest=Var.put f.id.toNat++(Var.put f.name.size++(f.name.data.toList++(Var.put f.kind.toNat++(Var.put (if f.need then 1 else 0)++rest)))):=by
  unfold Fy;rw[Wx];simp only[Az]
 have h1:=Hz (most:=4294967295) (n:=f.id.toNat) gd gm (Var.put f.name.size++(f.name.data.toList++(Var.put f.kind.toNat++(Var.put (if f.need then 1 else 0)++rest))));have h2:=Hz (most:=16) (n:=f.name.size) h gm (f.name.data.toList++(Var.put f.kind.toNat++(Var.put (if f.need then 1 else 0)++rest)));have h3:=Hz (most:=255) (n:=f.kind.toNat) gd gm (Var.put (if f.need then 1 else 0)++rest);have h4:=Hz (most:=1) (n:=if f.need then 1 else 0) (by split<;>omega) gm rest;have hs:f.name.data.toList.length=f.name.size:=gj;obtain⟨t1,t2,t3⟩:=NU (r:=(f.name.size,f.name.data.toList++(Var.put f.kind.toNat++(Var.put (if f.need then 1 else 0)++rest)),0)) rfl (by simp only[AR,hs];omega);rw[e1,JE h1 h2 (by rw[t1,t3];simp only[];rw[<-hs,List.drop_left];exact h3) h4,t2];have hn:(⟨(List.take f.name.size (f.name.data.toList++(Var.put f.kind.toNat++(Var.put (if f.need then 1 else 0)++rest)))).toArray⟩:ByteArray)=f.name:=by
  rw[<-hs,List.take_left]
 have hb:decide ((if f.need then 1 else 0)=1)=f.need:=by cases f.need<;>rfl
 simp only[];rw[hn,hb]
theorem QO:∀(l acc:List Fd) (rest:List UInt8),(∀f∈l,f.name.size<=16)->DI l.length (By l++rest) 0 acc=(acc++l,rest,0)
 | [],acc,rest,_=>by simp[DI,By]
 | f::l,acc,rest,h=>by
   rw[Ww,Az,Bg,NT,Wy f (h f gj)];rw[QO l _ rest λg hg=>h g (by simp[hg])];simp
theorem X0 (id l rest)(h8:l.length<=8)(h:∀f∈l,f.name.size<=16):rdS (DK id l++rest) 0=⟨id,l,rest,check id l⟩:=by
 have:=id.toNat_lt;have h1:=Hz (most:=4294967295) (n:=id.toNat) gd gm (Var.put l.length++(By l++rest));have h2:=Hz (most:=8) (n:=l.length) h8 gm (By l++rest);have h3:=QO l [] rest h;have e1:DK id l++rest=Var.put id.toNat++(Var.put l.length++(By l++rest)):=by unfold DK;simp only[Az]
 rw[e1,KZ h1.symm h2.symm h3];simp
theorem XB {id l}(h:check id l=0)(rest):rdS (DK id l++rest) 0=⟨id,l,rest,0⟩:=by
 rw[X0 id l rest (Ef h).2.2 (Ku h),h]
theorem XC (l):(DL l).length=l.length+4:=by simp[DL,le4]
theorem QP (l):BT (DL l)=some l:=by
 have h1:=XC l;have h2:(DL l).take ((DL l).length-4)=l:=by rw[h1,Nat.add_sub_cancel];unfold DL;exact List.take_left
 unfold BT;rw[h2,AJ ⟨gd,rfl⟩]
theorem Es {n}(h:n<18446744073709551616)(rest):Ai (Var.put n++rest) false=(n,rest,false):=by
 have hg:=Var.get_put h rest;rw[L6 (by rw[hg];simp),hg];simp
theorem Lg {s}(h:s.size<=64)(rest):C7 (tx s++rest) false=(s,rest,false):=by
 have e:tx s++rest=Var.put s.size++(s.data.toList++rest):=by unfold tx;rw[Az]
 have hm:=Es (n:=s.size) gd (s.data.toList++rest);have hs:s.data.toList.length=s.size:=by rw[Array.length_toList];rfl
 unfold C7;rw[e,hm,AE (by simp only[AR,hs];simp)];simp only[];rw[<-hs,List.take_left,List.drop_left]
theorem QQ:∀(ms acc:List ByteArray) (rest:List UInt8),(∀s∈ms,s.size<=24)->acc.length+ms.length<=8->Ei ms.length (txs ms++rest) false acc=(acc++ms,rest,false)
 | [],acc,rest,_,_=>by simp[txs,Ei]
 | s::ms,acc,rest,h,h8=>by
   have e:txs (s::ms)++rest=tx s++(txs ms++rest):=by simp[txs]
   rw[Bg]at h8;rw[e,Bg,Ob,Lg (AS (h s gj) gm)];have hd:decide (8<acc.length+1)=false:=AG gd;simp only[hd,Bool.or_false];rw[QQ ms _ rest (λx hx=>h x (by simp[hx])) gt];simp
theorem XD {p}(h:BJ p.ms=true)(rest):EQ (snB p++rest) false=(p,rest,false):=by
 obtain⟨h8,hs⟩:=JR h;have:=p.id.toNat_lt;have:=p.par.toNat_lt;have:=p.seq.toNat_lt;have:=p.off.toNat_lt;have:=p.tim.toNat_lt;have:=p.sch.toNat_lt;have e:snB p++rest=Var.put p.id.toNat++(Var.put p.par.toNat++(Var.put p.seq.toNat++(Var.put p.off.toNat++(Var.put p.tim.toNat++(Var.put p.sch.toNat++(Var.put p.ms.length++(txs p.ms++rest))))))):=by
  simp[snB,Dy,BD]
 rw[e];have hd:=gF (4294967295<p.sch.toNat);rw[Oc (Es gd _) (Es gd _) (Es gd _) (Es gd _) (Es gd _) (Es gd _) (by rw[hd];exact Es gd _) (QQ p.ms [] rest hs (by simpa using h8))];simp only[mk7,UInt64.ofNat_toNat,UInt32.ofNat_toNat,CN]
theorem QR:∀(ss acc:List Ps) (rest:List UInt8),(∀s∈ss,check s.1 s.2=0)->acc.length+ss.length<=16->oS ss.length (Ci ss++rest) false acc=(acc++ss,rest,false)
 | [],acc,rest,_,_=>by simp[Ci,oS]
 | s::ss,acc,rest,h,h8=>by
   have e:Ci (s::ss)++rest=DK s.1 s.2++(Ci ss++rest):=by simp[Ci]
   rw[Bg]at h8;have hp:=XB (h s gj) (Ci ss++rest);obtain⟨q1,q2,q3⟩:=OT hp;rw[e,Bg,Od,q1,q2,q3,hp];have hd:decide (16<acc.length+1)=false:=AG gd;simp only[hd,Bool.or_false];rw[show decide ((0:Nat)≠0)=false from rfl,QR ss _ rest (λx hx=>h x (by simp[hx])) gt];simp
theorem QS:∀(ns acc:List Sn) (rest:List UInt8),(∀s∈ns,BJ s.ms=true)->acc.length+ns.length<=32->oN ns.length (DB ns++rest) false acc=(acc++ns,rest,false)
 | [],acc,rest,_,_=>by simp[DB,oN]
 | s::ns,acc,rest,h,h8=>by
   have e:DB (s::ns)++rest=snB s++(DB ns++rest):=by simp[DB]
   rw[Bg]at h8;rw[e,Bg,Oe,XD (h s gj)];have hd:decide (32<acc.length+1)=false:=AG gd;simp only[hd,Bool.or_false];rw[QS ns _ rest (λx hx=>h x (by simp[hx])) gt];simp
theorem XE {ss ns cur}(h:B7 ss ns cur=true):opn ((wrT ss ns).drop 3)=(ss,ns,false):=by
 obtain⟨⟨h1,h2,h3⟩,h4,h5⟩:=Gh h;have e:(wrT ss ns).drop 3=Var.put ss.length++(Ci ss++(Var.put ns.length++(DB ns++[]))):=by
  simp[wrT,wr1,wr0,tf1]
 rw[e];have a:=QR ss [] (Var.put ns.length++(DB ns++[])) h4 (by simpa using h2);have b:=QS ns [] [] h5 (by simpa using h3);rw[CN]at a b;exact Of (Es gd _) a (Es gd _) b
section
variable {w w':World} {B n c:Nat} {A:Option Addr}
theorem Rd.lenSt {l}(h:Rd w B 10 A n c (BH l)):n=l.length:=h.lenA stV 10 LH gd
theorem Rd.lenE2 {l}(h:Rd w B 6 A n c (Ax l)):n=l.length:=h.lenA elV 6 Fa gd
end
theorem XF (n):Dz (zig n)=n:=by
 unfold Dz zig;split<;>split<;>omega
theorem EJ {most n}(h:n<=most)(hm:most<18446744073709551616)(rest):dT most (Var.put n++rest) false=(n,rest,false):=by
 unfold dT;rw[Es gd,AE (by show ¬most<n;omega)]
theorem Lh {s}(h:s.size=0):s=ByteArray.empty:=by
 apply Gi;rw[EM,EM];have e:s.data.toList.length=0:=by rw[Array.length_toList];exact h
 rw[Fm e];rfl
theorem Jt {a b:Ce}(h1:a.kind.toNat=b.kind.toNat)(h2:a.n.toInt=b.n.toInt)(h3:a.s=b.s):a=b:=by
 cases a;cases b;simp only[Ce.mk.injEq];exact⟨UInt8.toNat_inj.1 h1,Int64.toInt_inj.1 h2,h3⟩
theorem Li {c}(h:isZ c=true):c=ceZ:=by
 unfold isZ at h;simp only[BX,BI]at h;exact Jt h.1 (by rw[h.2.1];rfl) (Lh h.2.2)
theorem Lj {c}(h:CZ c=true)(rest):DN c.kind (CA c++rest) false=(c,rest,false):=by
 obtain⟨h1,h2,h3,h4,h5,h6⟩:=IQ h;unfold DN CA;by_cases k1:c.kind.toNat=1
 .rw[AJ k1,AJ k1];have hg:=Var.get_put (Hn (Int64.le_toInt c.n) (by have:=Int64.toInt_lt c.n;omega)) rest;rw[AE (by rw[hg];simp),hg];simp only[XF,List.drop_left];congr 1;exact Jt (by rw[k1];rfl) (by rw[Int64.ofInt_toInt]) (Lh (h4 gd)).symm
 rw[AE k1,AE k1];by_cases k2:c.kind.toNat=2
 .rw[AJ k2,AJ k2];have hn:=h6 k2;rw[EJ (by rcases hn with q|q<;>rw[q]<;>decide) gm];simp only[];congr 1;exact Jt rfl (by rcases hn with q|q<;>rw[q]<;>rfl) (Lh (h4 gd)).symm
 rw[AE k2,AE k2,Lg h3];simp only[];congr 1;exact Jt rfl (by rw[h5 gd];rfl) rfl
theorem QT (a):UInt8.ofNat a.toNat=a:=UInt8.toNat_inj.1 (by rw[UInt8.toNat_ofNat'];have:=a.toNat_lt;omega)
theorem QU {a}(h:0<=a.toInt):Int64.ofNat a.toInt.toNat=a:=Int64.toInt_inj.1 (by
 have:=Int64.toInt_lt a;rw[Int64.toInt_ofNat_of_lt gd];omega)
theorem XG {s}(h:Dh s=true){rows}(hr:s.rows.toInt=rows.toInt)(rest):EG rows (E2 s++rest) false=(s,rest,false):=by
 obtain⟨h1,h2,h3,h4⟩:=JZ h;obtain rfl:s.rows=rows:=Int64.toInt_inj.1 hr;unfold Dh at h;simp only[BX,BI]at h;obtain⟨_,_,_,h5⟩:=h;unfold EG E2;cases s with
 | mk rw nu sm hi mn mx=>
 dsimp only at *;have e0:Int64.ofNat nu.toInt.toNat=nu:=QU h1;cases sm with
 | false=>
   simp only[if_true,Az,EK,if_false,BX,GQ,BI]at h5 ⊢;rw[EJ gd gm];simp only[];rw[EJ gd gm];simp only[IU,if_true];rw[e0,h5.2.1,Li h5.2.2.1,Li h5.2.2.2]
 | true=>
   obtain⟨b1,b2⟩:=h4 rfl;have:=(IQ b1).1;cases hi with
   | true=>
     obtain⟨b3,b4⟩:=b2 rfl;have b5:mn.kind=mx.kind:=UInt8.toNat_inj.1 b4;simp only[Bool.true_eq_false,if_false,if_true,Az];rw[EJ gd gm];simp only[];rw[EJ gd gm];simp only[IU,AE (show ¬(3:Nat)=0 by decide),IT,decide_true,if_true];rw[EJ gd gm];simp only[QT];rw[Lj b1];simp only[];rw[b5,Lj b3,e0]
   | false=>
     have h6:=h5;simp only[if_true,EK,if_false,BX,BI]at h6;simp only[Bool.true_eq_false,EK,if_false,Az];rw[EJ gd gm];simp only[];rw[EJ gd gm];simp only[IU,AE (show ¬(1:Nat)=0 by decide),IT,show decide ((1:Nat)=3)=false from rfl,EK,if_false];rw[EJ gd gm];simp only[QT];rw[Lj b1];simp only[];rw[e0,Li h6.2.2]
theorem QV {rows}:∀(l acc:List St) (rest:List UInt8),(∀s∈l,s.rows.toInt=rows.toInt/\Dh s=true)->E5 rows l.length (CQ l++rest) false acc=(acc++l,rest,false)
 | [],acc,rest,_=>by simp[CQ,E5]
 | s::l,acc,rest,h=>by
   have e:CQ (s::l)++rest=E2 s++(CQ l++rest):=by simp[CQ]
   have hs:=h s gj;rw[e,Bg,P0,XG hs.2 hs.1];simp only[];rw[QV l _ rest (λx hx=>h x (by simp[hx]))];simp
theorem XH {x}(h:CP x=true)(rest):EH (E3 x++rest) false=(x,rest,false):=by
 obtain⟨h1,h2,h3,h4,h5,h6,h7⟩:=Gj h;have:=Hq h1;have:=x.seq.toNat_lt;have:=x.sch.toNat_lt;have e:E3 x++rest=tx x.name++(Var.put (DC x.keys)++(Var.put x.seq.toNat++(Var.put x.rows.toInt.toNat++(Var.put x.sch.toNat++(Var.put x.stats.length++(CQ x.stats++rest)))))):=by unfold E3;simp only[Az]
 have hh:Jd (E3 x++rest) false=(⟨x.name,x.keys,x.seq,x.rows,x.sch,x.stats.length⟩,CQ x.stats++rest,false):=by
  unfold Jd;rw[e,Lg gd];simp only[];rw[EJ (by unfold DC;split<;>omega) gm];simp only[];rw[Es gd];simp only[];rw[EJ gd gm];simp only[];rw[EJ gd gm];simp only[];rw[EJ gd gm];simp only[];have ek:decide (DC x.keys=1)=x.keys:=by unfold DC;cases x.keys<;>rfl
  have es:UInt64.ofNat x.seq.toNat=x.seq:=UInt64.ofNat_toNat;have ec:UInt32.ofNat x.sch.toNat=x.sch:=UInt32.ofNat_toNat;rw[ek,es,ec,QU h3]
 unfold EH;rw[hh];simp only[];rw[QV _ _ _ h7];simp
theorem QW:∀(l acc:List En) (rest:List UInt8),(∀x∈l,CP x=true)->Ej l.length (Cj l++rest) false acc=(acc++l,rest,false)
 | [],acc,rest,_=>by simp[Cj,Ej]
 | x::l,acc,rest,h=>by
   have e:Cj (x::l)++rest=E3 x++(Cj l++rest):=by simp[Cj]
   rw[e,Bg,P4,XH (h x gj)];simp only[];rw[QW l _ rest (λy hy=>h y (by simp[hy]))];simp
theorem XI {l}(h:BR l=0):ents (wrE l)=(l,[],false):=by
 unfold BR at h;split at h
 .cases h
 split at h
 .rename_i h64 hal;have G:=JX hal;unfold ents wrE;have e:(mf1++Var.put l.length++Cj l).drop 3=Var.put l.length++Cj l:=by rw[Az];rfl
  rw[e,EJ gd gm];have:=QW l [] [] G;rw[List.append_nil]at this;exact this
 cases h
def SmE (l:List El):Prop:=l.length<=200/\∀x∈l,x.p.name.size<=500/\x.p.stats.length<=50
section
open Go.ChangeShapes Go.WideShapes Go.ChangeAt Go.RowKit Go.Deep Go.Joins
section
variable {H:Type} {enc:TypeId×Value->H} {w:World} {base:Nat} {spare:Nat->Bool} {held:Bool} {fuel:Nat}
theorem QX {P t fs cs x F}(ht:P.underlying t=some (.struct fs))(h:DataW.trod enc P w base spare held F t cs=some x):
 ∃n,∀(i:Nat) (f:Field),fs[i]? = some f->∃y,DataW.trod enc P w base spare held n f.type ((cs.drop f.offset).take (P.cellsOf f.type))=some y:=by
 obtain⟨ys,n,_,_,_,G,hf⟩:=DataW.trod_struct ht h;refine⟨n,λi f hi=>?_⟩;have h1:=hf i f hi;have I:i<ys.length:=by rw[G];exact(EX.1 hi).1
 exact⟨_,h1.trans (BF I)⟩
theorem XK {α:Type}{cs:List α}(h:cs.length=3):∃a b c,cs=[a,b,c]:=by
 match cs,h with
 | [a,b,c],_=>exact⟨a,b,c,rfl⟩
theorem XL {α:Type}{cs:List α}(h:cs.length=6):∃a b c d e f,cs=[a,b,c,d,e,f]:=by
 match cs,h with
 | [a,b,c,d,e,f],_=>exact⟨a,b,c,d,e,f,rfl⟩
theorem XM {α:Type}{cs:List α}(h:cs.length=10):∃a b c d e f g h i j,cs=[a,b,c,d,e,f,g,h,i,j]:=by
 match cs,h with
 | [a,b,c,d,e,f,g,h,i,j],_=>exact⟨a,b,c,d,e,f,g,h,i,j,rfl⟩
theorem Ju {a}(h : -9223372036854775808<=a/\a<=9223372036854775807):(Int64.ofInt a).toInt=a:=Int64.toInt_ofInt_of_le (by have:=h.1;simpa using this) (by have:=h.2;simp;omega)
theorem QY {cs x}(hl:cs.length=3)(h:DataW.trod enc prog w base spare held fuel 199 cs=some x):∃c:Ce,cs=[ip c.kind.toNat,io c.n.toInt,.string c.s]:=by
 obtain⟨n,hf⟩:=JO underlying199 gh h hl;obtain⟨c0,c1,c2,rfl⟩:=XK hl;obtain⟨y0,h0⟩:=hf 0 _ c0 rfl rfl;obtain⟨y1,h1⟩:=hf 1 _ c1 rfl rfl;obtain⟨y2,h2⟩:=hf 2 _ c2 rfl rfl;obtain⟨a0,e0,_,w0⟩:=DQ underlying84 h0;obtain⟨a1,e1,_,w1⟩:=DQ underlying2 h1;obtain⟨a2,e2,_,_⟩:=DataW.trod_string underlying9 h2;injection e0 with e0;injection e1 with e1;injection e2 with e2;subst e0 e1 e2;have:=bounds_u8 w0;refine⟨⟨UInt8.ofNat a0.toNat,Int64.ofInt a1,a2⟩,?_⟩;have q0:((UInt8.ofNat a0.toNat).toNat:Int)=a0:=by rw[UInt8.toNat_ofNat'];omega
 simp only[q0,Ju (bounds_i64 w1)]
theorem XN {cs x}(hl:cs.length=10)(h:DataW.trod enc prog w base spare held fuel 201 cs=some x):∃s:St,cs=stV s:=by
 obtain⟨n,hf⟩:=QX underlying201 h;obtain⟨c0,c1,c2,c3,c4,c5,c6,c7,c8,c9,rfl⟩:=XM hl;obtain⟨y0,h0⟩:=hf 0 _ rfl;obtain⟨y1,h1⟩:=hf 1 _ rfl;obtain⟨y2,h2⟩:=hf 2 _ rfl;obtain⟨y3,h3⟩:=hf 3 _ rfl;obtain⟨y4,h4⟩:=hf 4 _ rfl;obtain⟨y5,h5⟩:=hf 5 _ rfl;have G:prog.cellsOf 3=1:=gh;have I:prog.cellsOf 4=1:=gh;have O:prog.cellsOf 199=3:=gh;replace h0:DataW.trod enc prog w base spare held n 3 (([c0,c1,c2,c3,c4,c5,c6,c7,c8,c9].drop 0).take (prog.cellsOf 3))=some y0:=h0;replace h1:DataW.trod enc prog w base spare held n 3 (([c0,c1,c2,c3,c4,c5,c6,c7,c8,c9].drop 1).take (prog.cellsOf 3))=some y1:=h1;replace h2:DataW.trod enc prog w base spare held n 4 (([c0,c1,c2,c3,c4,c5,c6,c7,c8,c9].drop 2).take (prog.cellsOf 4))=some y2:=h2;replace h3:DataW.trod enc prog w base spare held n 4 (([c0,c1,c2,c3,c4,c5,c6,c7,c8,c9].drop 3).take (prog.cellsOf 4))=some y3:=h3;replace h4:DataW.trod enc prog w base spare held n 199 (([c0,c1,c2,c3,c4,c5,c6,c7,c8,c9].drop 4).take (prog.cellsOf 199))=some y4:=h4;replace h5:DataW.trod enc prog w base spare held n 199 (([c0,c1,c2,c3,c4,c5,c6,c7,c8,c9].drop 7).take (prog.cellsOf 199))=some y5:=h5;simp only[G,I,O,List.drop_zero,List.drop_succ_cons,EL,List.take_zero]at h0 h1 h2 h3 h4 h5;obtain⟨a0,e0,_,w0⟩:=DQ underlying3 h0;obtain⟨a1,e1,_,w1⟩:=DQ underlying3 h1;obtain⟨a2,e2,_⟩:=DataW.trod_bool underlying4 h2;obtain⟨a3,e3,_⟩:=DataW.trod_bool underlying4 h3;obtain⟨m1,e4⟩:=QY rfl h4;obtain⟨m2,e5⟩:=QY rfl h5;simp only[List.cons.injEq,and_true]at e0 e1 e2 e3 e4 e5;obtain⟨e4,T,V⟩:=e4;obtain⟨e5,Z,aa⟩:=e5;subst e0 e1 e2 e3 e4 T V e5 Z aa;refine⟨⟨Int64.ofInt a0,Int64.ofInt a1,a2,a3,m1,m2⟩,?_⟩;simp only[stV,Ju (bounds_i64 w0),Ju (bounds_i64 w1)]
theorem XO:prog.cellsOf 201=10:=gh
theorem XP:prog.cellsOf 97=6:=gh
theorem XS {cs x}(hl:cs.length=6)(h:DataW.trod enc prog w base (λ_=>true) held fuel 97 cs=some x):∃e:El,cs=elV e/\(Rd w w.heap.size 10 e.A e.p.stats.length e.c (BH e.p.stats)/\e.p.name.size<=9223372036854775807):=by
 obtain⟨n,hf⟩:=JO underlying97 gh h hl;obtain⟨c0,c1,c2,c3,c4,c5,rfl⟩:=XL hl;obtain⟨y0,h0⟩:=hf 0 _ c0 rfl rfl;obtain⟨y1,h1⟩:=hf 1 _ c1 rfl rfl;obtain⟨y2,h2⟩:=hf 2 _ c2 rfl rfl;obtain⟨y3,h3⟩:=hf 3 _ c3 rfl rfl;obtain⟨y4,h4⟩:=hf 4 _ c4 rfl rfl;obtain⟨y5,h5⟩:=hf 5 _ c5 rfl rfl;obtain⟨a0,e0,_,w0⟩:=DataW.trod_string underlying9 h0;obtain⟨a1,e1,_⟩:=DataW.trod_bool underlying4 h1;obtain⟨a2,e2,_,w2⟩:=DQ underlying35 h2;obtain⟨a3,e3,_,w3⟩:=DQ underlying3 h3;obtain⟨a4,e4,_,w4⟩:=DQ underlying30 h4;obtain⟨A,m,c,l,e5,hr,_⟩:=Fx stV 10 LH underlying95 XO gd (λ_=>True) (λF cs x hl h=>by obtain⟨s,hs⟩:=XN hl h;exact⟨s,hs,trivial⟩) h5;simp only[List.cons.injEq,and_true]at e0 e1 e2 e3 e4 e5;subst e0 e1 e2 e3 e4 e5;obtain rfl:=Rd.lenSt hr;have:=bounds_u64 w2;have:=bounds_u32 w4;refine⟨⟨⟨a0,a1,UInt64.ofNat a2.toNat,Int64.ofInt a3,UInt32.ofNat a4.toNat,l⟩,A,c⟩,?_,hr,by unfold maxLen at w0;omega⟩;have q2:((UInt64.ofNat a2.toNat).toNat:Int)=a2:=by rw[UInt64.toNat_ofNat'];omega
 have q4:((UInt32.ofNat a4.toNat).toNat:Int)=a4:=by rw[UInt32.toNat_ofNat'];omega
 simp only[elV,q2,q4,Ju (bounds_i64 w3)]
theorem XU {cs x}(h:DataW.trod enc prog w base (λ_=>true) held fuel 46 cs=some x):∃(A:Option Addr) (c:Nat) (l:List El),cs=[.slice A l.length c]/\EnR w w.heap.size A c l/\∀x∈l,x.p.name.size<=9223372036854775807:=by
 obtain⟨A,n,c,l,rfl,hr,hi⟩:=Fx elV 6 Fa underlying46 XP gd _ (λF cs x hl h=>XS hl h) h;obtain rfl:=Rd.lenE2 hr;exact⟨A,c,l,rfl,⟨hr,λx hx=>(hi x hx).1⟩,λx hx=>(hi x hx).2⟩
end
end
structure Opn where
 kind:UInt8
 nm:ByteArray
 old:ByteArray
 bs:List UInt8
 bA:Option Addr
 bc:Nat
 n:Int
 keep:List Int
 kA:Option Addr
 kc:Nat
instance:Inhabited Opn:=⟨⟨0,ByteArray.empty,ByteArray.empty,[],none,0,0,[],none,0⟩⟩
theorem Jv (x:UInt64):IntKind.u64.wrap ((x.toNat:Int)+1)=((x+1).toNat:Int):=by
 rw[BU,UInt64.toNat_add];have:(1:UInt64).toNat=1:=rfl;omega
theorem QZ {l}(h:BJ l=true):l.length<=8/\∀x∈l,x.size<=24:=by
 unfold BJ at h;simp only[BX,BI,Da,List.mem_range]at h;refine⟨h.1,λx hx=>?_⟩;obtain⟨i,hi,rfl⟩:=EZ.1 hx;have h2:=(h.2 i hi).1;rw[BW,BF hi]at h2;unfold Aq at h2;simp only[BX,BI]at h2;exact h2.1.2
theorem Tb.ok.now_ms {t:Tb}(h:t.ok):t.now.ms.length<=8/\∀x∈t.now.ms,x.size<=24:=by
 obtain⟨_,_,hn⟩:=Gh h;unfold Tb.now;split
 .rcases Nat.lt_or_ge t.nowI.toNat t.ns.length with hl|hl
  .rw[BW,BF hl];have h2:BJ (t.ns[t.nowI.toNat]).ms=true:=hn _ (List.getElem_mem hl);exact QZ h2
  rw[BW,List.getElem?_eq_none hl];exact⟨AU _,λx hx=>(Bf hx).elim⟩
 exact⟨AU _,λx hx=>(Bf hx).elim⟩
theorem Jw (nw d sh):(sn1 nw d sh).id=nw.id+1/\(sn1 nw d sh).par=nw.id/\(sn1 nw d sh).tim=(if d.tim.toNat<nw.tim.toNat then nw.tim else d.tim)/\(sn1 nw d sh).sch=sh/\(sn1 nw d sh).ms=[]:=by
 unfold sn1;split<;>exact⟨rfl,rfl,rfl,rfl,rfl⟩
theorem Qa (s:So):∀(ms:List ByteArray) (acc:List (List En)),(s.ents ms acc).1.flatten.length<=acc.flatten.length+ms.length * 64
 | [],acc=>by show acc.flatten.length<=_;omega
 | nm::r,acc=>by
   show(if _ then _ else _:List (List En)×Nat).1.flatten.length<=_;split
   .simp
   split
   .simp
   have h1:=Qa s r (acc++[(opE (s.get nm).1).2]);have:=(QB (s.get nm).1).len;rw[List.flatten_append,AR,List.flatten_singleton]at h1;rw[Bg];omega
theorem Qb (s:So)(ms):(s.entries ms).1.length<=ms.length * 64:=by
 unfold So.entries;split
 .exact AU _
 have h1:=Qa s ms [];rw[List.flatten_nil,List.length_nil,BL]at h1;exact AS (Jf (s.ents ms []).1.flatten) h1
theorem Lk {s:So}{t d sh er}(h:DP t d=er)(h0:er≠0):(s.draft t d sh).1=er:=by unfold So.draft;rw[h,AJ h0]
theorem XV {s:So}{t d sh er}(hd:DP t d=0)(h:(s.entries t.now.ms).2=er)(h0:er≠0):(s.draft t d sh).1=er:=by unfold So.draft;rw[hd,AE gj,h,AJ h0]
theorem XW {s:So}{t d sh old}(hd:DP t d=0)(h:s.entries t.now.ms=(old,0)):s.draft t d sh=Di t d sh old:=by unfold So.draft;rw[hd,AE gj,h,AE gj]
theorem XX {t d sh old}(h:(d.drops.all λn=>Eo old n)=false):Di t d sh old=(150,default,[]):=by unfold Di;rw[AJ h]
theorem XY {t d sh old}(h:(d.drops.all λn=>Eo old n)=true)(h2:d.rew=true/\(d.adds.any λx=>decide (t.now.seq.toNat<x.seq.toNat))=true):Di t d sh old=(1,default,[]):=by unfold Di;rw[AE gz,AJ h2]
theorem XZ {t d sh old}(h:(d.drops.all λn=>Eo old n)=true)(h2:¬(d.rew=true/\(d.adds.any λx=>decide (t.now.seq.toNat<x.seq.toNat))=true))(h3:1073741824<(sn1 t.now d sh).id.toNat):Di t d sh old=(6,default,[]):=by unfold Di;rw[AE gz,AE h2,AJ h3]
theorem Xa {t d sh old}(h:(d.drops.all λn=>Eo old n)=true)(h2:¬(d.rew=true/\(d.adds.any λx=>decide (t.now.seq.toNat<x.seq.toNat))=true))(h3:¬ 1073741824<(sn1 t.now d sh).id.toNat)(h4:64<(E7 t.now d old).length):Di t d sh old=(4,default,[]):=by unfold Di;rw[AE gz,AE h2,AE h3,AJ h4]
theorem Xb {t d sh old}(h:(d.drops.all λn=>Eo old n)=true)(h2:¬(d.rew=true/\(d.adds.any λx=>decide (t.now.seq.toNat<x.seq.toNat))=true))(h3:¬ 1073741824<(sn1 t.now d sh).id.toNat)(h4:¬ 64<(E7 t.now d old).length)(h5:d.rew=false/\t.now.ms.length<8):Di t d sh old=(0,{ sn1 t.now d sh with ms:=t.now.ms },FL t.now d):=by unfold Di;rw[AE gz,AE h2,AE h3,AE h4,AJ h5]
theorem Xc {t d sh old}(h:(d.drops.all λn=>Eo old n)=true)(h2:¬(d.rew=true/\(d.adds.any λx=>decide (t.now.seq.toNat<x.seq.toNat))=true))(h3:¬ 1073741824<(sn1 t.now d sh).id.toNat)(h4:¬ 64<(E7 t.now d old).length)(h5:¬(d.rew=false/\t.now.ms.length<8)):Di t d sh old=(0,sn1 t.now d sh,E7 t.now d old):=by unfold Di;rw[AE gz,AE h2,AE h3,AE h4,AE h5]
theorem Qc {l}(h:(CD l).2=0):(CD l).1.ok:=by
 unfold CD at h ⊢;by_cases h0:Cs l=0
 .rw[AJ h0];unfold Cs at h0;split at h0
  .cases h0
  split at h0
  .cases h0
  split at h0
  .cases h0
  rename_i hn;rw[not_or,not_or]at hn;have:=hn.2.1;unfold Tb.ok;show B7 _ _ (Ic _).toNat=true;simpa [Ic,ER]using this
 rw[AE h0]at h;exact absurd h h0
theorem Qd {s:So}{c}(h:c.t.ok):(s.refresh c).1.t.ok:=by
 unfold So.refresh;split
 .exact h
 split
 .exact h
 split
 .exact h
 rename_i h3;exact Qc (by simpa using h3)
theorem GJ {chg k s c}(h:(CE c (chg s c.t)).on=false):BP chg (k+1) s c=CE c (chg s c.t):=by
 show(if _ then _ else _)=_;rw[AE gz]
theorem Qe {chg k s c}(h:(CE c (chg s c.t)).on=true):BP chg (k+1) s c=BP chg k (CE c (chg s c.t)).s (CE c (chg s c.t)).c:=by
 show(if _ then _ else _)=_;rw[AJ h]
theorem Qf {chg k s c h}(hh:chg s c.t=h)(h0:h.e≠0):BP chg (k+1) s c=⟨h.s,c,h.e,false,default⟩:=by
 have e:CE c (chg s c.t)=⟨h.s,c,h.e,false,default⟩:=by rw[hh];unfold CE;rw[AJ h0]
 rw[GJ (by rw[e]),e]
theorem Qg {chg k s c h}(hh:chg s c.t=h)(h0:h.e=0)(h1:B7 h.t.ss h.t.ns h.t.cur.toNat=false):BP chg (k+1) s c=⟨h.s,c,1,false,default⟩:=by
 have e:CE c (chg s c.t)=⟨h.s,c,1,false,default⟩:=by rw[hh];unfold CE;rw[AE (by rw[h0];simp),AJ h1]
 rw[GJ (by rw[e]),e]
theorem Lm {chg:So->Tb->Ch}{s c h}(hh:chg s c.t=h)(h0:h.e=0)(h1:B7 h.t.ss h.t.ns h.t.cur.toNat=true){st}(hst:h.s.stage 116 (wrS h.t.ss h.t.ns)=st){q}(hq:(if st.2.2=0 then st.1.swap c.nm st.2.1 else (st.1,st.2.2))=q):CE c (chg s c.t)=DX c h q st.2.1:=by
 rw[hh];unfold CE;rw[AE (by rw[h0];simp),AE (by rw[h1];simp),hst];unfold Jm;rw[hq]
theorem Qh {c h q nm}(h0:q.2=0):DX c h q nm=⟨q.1,⟨h.t,nm⟩,0,false,h.n⟩:=by unfold DX;rw[AJ h0]
theorem Qi {c h q nm}(h0:q.2≠0)(h1:q.2≠123):DX c h q nm=⟨q.1,c,q.2,false,h.n⟩:=by unfold DX;rw[AE h0,AJ h1]
theorem Xd {c h q nm}(h1:q.2=123)(h2:(q.1.refresh c).2≠0):DX c h q nm=⟨q.1,c,(q.1.refresh c).2,false,h.n⟩:=by unfold DX;rw[AE (by rw[h1];simp),AE (by rw[h1];simp),AJ h2]
theorem Xe {c h q nm}(h1:q.2=123)(h2:(q.1.refresh c).2=0):DX c h q nm=⟨q.1,(q.1.refresh c).1,0,true,h.n⟩:=by unfold DX;rw[AE (by rw[h1];simp),AE (by rw[h1];simp),AE (by rw[h2];simp)]
theorem Xf {s:So}{c}(h:(s.refresh c).2≠0):(s.refresh c).1=c:=by
 unfold So.refresh at h ⊢;split
 .rfl
 rename_i h1;rw[AE h1]at h;split
 .rfl
 rename_i h2;rw[AE h2]at h;split
 .rfl
 rename_i h3;rw[AE h3]at h;exact absurd rfl h
def noC:Ct:=⟨default,no_⟩
def tb1 (p:Ps):Tb:=⟨[p],[],0⟩
def So.begin2 (s:So) (p:Ps) (st:So×ByteArray×Nat) (q:So×Nat):So×Ct×Nat:=if q.2=0 then (q.1,⟨tb1 p,st.2.1⟩,0) else (q.1,noC,q.2)
def So.begin (s:So) (p:Ps):So×Ct×Nat:=
 if B7 [p] [] 0=false then (s,noC,1)
 else s.begin2 p (s.stage 116 (wrS [p] [])) (if (s.stage 116 (wrS [p] [])).2.2=0 then (s.stage 116 (wrS [p] [])).1.swap no_ (s.stage 116 (wrS [p] [])).2.1 else ((s.stage 116 (wrS [p] [])).1,(s.stage 116 (wrS [p] [])).2.2))
def So.open3 (r:So×Ct×Nat):So×Option Ct×Nat:=if r.2.2=0 then (r.1,some r.2.1,0) else (r.1,none,r.2.2)
def So.open2 (s:So) (p:Ps):So×Ct×Nat:=
 if s.dead=true then (s,noC,120) else if s.cell.size=0 then s.begin p else (s,s.refresh noC)
def So.openC (s:So) (p:Ps):So×Option Ct×Nat:=if check p.1 p.2≠0 then (s,none,check p.1 p.2) else So.open3 (s.open2 p)
theorem Xg {ss ns cur s}(h:CT ss ns cur s=0):B7 (ss++[s]) ns cur=true:=by
 unfold CT at h;split at h
 .cases h
 split at h
 .assumption
 cases h
theorem Qj:∀(l:List Fd) (t:Tb),t.ok->(B1 t l).2=0->(B1 t l).1.ok
 | [],t,h,_=>h
 | f::r,t,h,h0=>by
   unfold B1 at h0 ⊢;split at h0
   .cases h0
   rename_i h1;rw[AE h1];split at h0
   .rename_i h2;exact absurd h0 h2
   rename_i h2;rw[AE h2];split at h0
   .rename_i h3;exact absurd h0 h3
   rename_i h3;rw[AE h3];exact Qj r _ (Xg (by simpa using h3)) h0
theorem Qk {d s t u e}(h:B1 t d.fs=(u,e))(h0:e≠0):BB d s t=⟨s,e,default,default⟩:=by unfold BB;rw[h,AJ h0]
theorem Ql {d s t u g}(h:B1 t d.fs=(u,0))(hg:s.draft t d u.lastS.1=g):BB d s t=Er s u g:=by unfold BB;rw[h,AE gj,hg]
theorem Qm {s u g}(h:g.1≠0):Er s u g=⟨s,g.1,default,default⟩:=by unfold Er;rw[AJ h]
theorem Qn {s u g}(h:g.1=0)(h2:BR g.2.2≠0):Er s u g=⟨s,BR g.2.2,default,default⟩:=by unfold Er;rw[AE gz,AJ h2]
theorem Qo {s u g st}(h:g.1=0)(h2:BR g.2.2=0)(hst:s.stage 109 (Bq g.2.2)=st):Er s u g=Ep s u g.2.1 st:=by unfold Er;rw[AE gz,AE (by rw[h2];simp),hst]
theorem Qp {s u sn st}(h:st.2.2≠0):Ep s u sn st=⟨st.1,st.2.2,default,default⟩:=by unfold Ep;rw[AJ h]
theorem Qq {s u sn sn2 st}(h:st.2.2=0)(h2 : { sn with ms:=sn.ms++[st.2.1] } = sn2)(h3:Dw u.ss u.ns sn2≠0):Ep s u sn st=⟨st.1,Dw u.ss u.ns sn2,default,default⟩:=by subst h2;unfold Ep;rw[AE gz,AJ h3]
theorem Qr {s u sn sn2 st}(h:st.2.2=0)(h2 : { sn with ms:=sn.ms++[st.2.1] } = sn2)(h3:Dw u.ss u.ns sn2=0):Ep s u sn st=⟨st.1,0,⟨u.ss,u.ns++[sn2],sn2.id⟩,sn2⟩:=by subst h2;unfold Ep;rw[AE gz,AE (by rw[h3];simp)]
structure So.firm (s:So):Prop where
 calm:s.calm
 all:∀p∈s.m,p.2.loose=false
theorem I0 {s:So}(h:s.calm):s.change=(s,0):=by
 obtain⟨a,b,c⟩:=h;obtain⟨q,u,m,ce,fu,fa,de⟩:=s;dsimp only at a b c;subst a b c;rfl
theorem Xh (q):(So.new q).firm:=⟨⟨rfl,rfl,rfl⟩,λ_ h=>(Bf h).elim⟩
theorem Qs {s:So}(h:s.calm)(nm bs):((s.put nm bs).2≠0/\(s.put nm bs).1=s)\/s.put nm bs=(s.add nm bs,0):=by
 unfold So.put;split
 .exact .inl ⟨gj,rfl⟩
 split
 .exact .inl ⟨gj,rfl⟩
 split
 .exact .inl ⟨gj,rfl⟩
 split
 .exact .inl ⟨gj,rfl⟩
 split
 .exact .inl ⟨gj,rfl⟩
 rw[I0 h];right;rfl
theorem Qt {m}(nm t):Ar (Be m nm t) nm=some t:=LS _ nm t
def So.sync1 (s:So) (nm:ByteArray) (bs:List UInt8):So:= { s.add nm bs with m:=Be (s.add nm bs).m nm ⟨bs,false⟩ }
theorem Xi {s:So}(h:s.calm)(nm bs):((s.stage2 nm bs).2.2≠0/\(s.stage2 nm bs).1=s)\/s.stage2 nm bs=(s.sync1 nm bs,nm,0):=by
 unfold So.stage2;rcases Qs h nm bs with ⟨h1,h2⟩|h1
 .rw[AJ h1];exact .inl ⟨h1,h2⟩
 have hc:(s.add nm bs).calm:=⟨h.dead,h.fuse,h.fault⟩;have hs:(s.add nm bs).sync nm=(s.sync1 nm bs,0):=by
  unfold So.sync;rw[AE (by rw[hc.dead];simp),show Ar (s.add nm bs).m nm=some ⟨bs,true⟩ from Qt _ _];dsimp only;rw[I0 hc];rfl
 rw[h1,AE gj,hs,AE gj];exact .inr rfl
theorem Xj {s:So}(h:s.firm)(nm bs):(s.sync1 nm bs).firm:=by
 refine⟨⟨h.calm.dead,h.calm.fuse,h.calm.fault⟩,λp hp=>?_⟩;rcases List.mem_append.1 (show p∈CB (Be s.m nm ⟨bs,true⟩) nm++[(nm,⟨bs,false⟩)] from hp)with q|q
 .obtain⟨q1,q2⟩:=Jg.1 q;rcases Ia q1 with q3|q3
  .exact h.all p q3
  exact absurd (by rw[q3]) q2
 rw[BS.1 q]
theorem Xk:∀args w,(callFunc 96 args).run prog w = .ok (.enter 96 args) w:=enters_of func96 gh rfl
theorem Xl:∀args w,(callFunc 97 args).run prog w = .ok (.enter 97 args) w:=enters_of func97 gh rfl
theorem Xm:∀args w,(callFunc 99 args).run prog w = .ok (.enter 99 args) w:=enters_of func99 gh rfl
theorem Xn (w b s)(hb0:b<w.heap.size)(hc:w.cell? (gX b 0)=some (.string s)):
 Jq w 96 #[iq b 0] (λx=>x.p.name.toList==s.toList):=λW f hb=>by
 have:=(hb.cell (p:=gX b 0) hb0).trans hc;have G:b<W.heap.size:=AV hb0 hb.size;have:b≠W.heap.size:=Cy G;show Calls prog 96 #[.agg (eNV f.p f.A f.c),iq b 0] W _;clear hc;go_enter func96,ntmps96;go_wp2_with fail
 go_ret;exact⟨rfl,hb.alloc hb.size _⟩
theorem Xo (w b)(q:UInt64)(hb0:b<w.heap.size)(hc:w.cell? (gX b 2)=some (il q.toNat)):
 Jq w 97 #[iq b 0] (λx=>decide (q.toNat<x.p.seq.toNat)):=λW f hb=>by
 have:=(hb.cell (p:=gX b 2) hb0).trans hc;have G:b<W.heap.size:=AV hb0 hb.size;have:b≠W.heap.size:=Cy G;show Calls prog 97 #[.agg (eNV f.p f.A f.c),iq b 0] W _;have:decide ((q.toNat:Int)<(f.p.seq.toNat:Int))=decide (q.toNat<f.p.seq.toNat):=decide_eq_decide.2 gd;clear hc;go_enter func97,ntmps97;go_wp2_with fail
 go_ret;exact⟨gj,hb.alloc hb.size _⟩
theorem Xp (w b g B n k A l)(hb0:b<w.heap.size)(hne:b≠g)(hc:w.cell? (gX b 3)=some (.slice A n k))(hr:∀W,Oth g w W->Rd W B 1 A n k (AY l))(hmax:l.length<=1000000):
 Jr w g 99 #[iq b 0] (λx=>DO l x.p.name):=λW f hb=>by
 have:=(hb.cell (p:=gX b 3) hb0 hne).trans hc;have I:b<W.heap.size:=AV hb0 hb.size;have:b≠W.heap.size:=Cy I;show Calls prog 99 #[.agg (eNV f.p f.A f.c),iq b 0] W _;have O:=hI W (.cells (eNV f.p f.A f.c) 97);have G:=NW _ _ _ _ _ _ (hr _ (hb.alloc (.cells (eNV f.p f.A f.c) 97))) hmax f.p.name;clear hc hr;go_enter func99,ntmps99;go_wp2_with fail
 refine G.mono ?_;rintro e w' ⟨rfl,rfl⟩;go_wp2_with fail
 go_ret;exact⟨rfl,O⟩
theorem Qu (p l):ixA p (l.map dL)=ixA (λx:Nl=>p x.p) l:=by
 unfold ixA;rw[List.any_map,List.findIdx_map];rfl
theorem Qv {t:Tb}{ns}(e:ns.map dL=t.ns):Fv ns t.cur=t.nowI:=by
 unfold Fv Tb.nowI sIx DD;rw[<-e,Qu]
theorem Xq {t:Tb}{ns}(e:ns.map dL=t.ns):Cg ns (Fv ns t.cur)=t.now:=by
 rw[Qv e];unfold Cg Tb.now;split
 .rw[<-e];simp only[BW,DY];cases ns[t.nowI.toNat]? <;> rfl
 rfl
def set7b (w:World) (b:Nat) (v0 v1 v2 v3 v4 v5 v6:Value):World:=((((((w.setCell ⟨b,0,none⟩ v0).setCell ⟨b,1,none⟩ v1).setCell ⟨b,2,none⟩ v2).setCell ⟨b,3,none⟩ v3).setCell ⟨b,4,none⟩ v4).setCell ⟨b,5,none⟩ v5).setCell ⟨b,6,none⟩ v6
section
variable {w:World} {b:Nat} {v0 v1 v2 v3 v4 v5 v6:Value}
theorem dH.set7b {u0 u1 u2 u3 u4 u5 u6:Value} (h:dH w b [u0,u1,u2,u3,u4,u5,u6]):dH (set7b w b v0 v1 v2 v3 v4 v5 v6) b [v0,v1,v2,v3,v4,v5,v6]:=
 ((((((h.set (j:=0) v0 rfl).set (j:=1) v1 rfl).set (j:=2) v2 rfl).set (j:=3) v3 rfl).set (j:=4) v4 rfl).set (j:=5) v5 rfl).set (j:=6) v6 rfl
theorem EU (w b v0 v1 v2 v3 v4 v5 v6):Oth b w (Proofs.YtpfofefecamkfaaGreatDoor.set7b w b v0 v1 v2 v3 v4 v5 v6):=
 (((((((Oth.refl b w).set 0 v0).set 1 v1).set 2 v2).set 3 v3).set 4 v4).set 5 v5).set 6 v6
theorem Xr {B w0}(h:Below B w0 w)(hb:B<=b):Below B w0 (Proofs.YtpfofefecamkfaaGreatDoor.set7b w b v0 v1 v2 v3 v4 v5 v6):=
 ((((((h.setCell (p:=gX b 0) hb _).setCell (p:=gX b 1) hb _).setCell (p:=gX b 2) hb _).setCell (p:=gX b 3) hb _).setCell (p:=gX b 4) hb _).setCell (p:=gX b 5) hb _).setCell (p:=gX b 6) hb _
end
theorem Cm {fn p u u2}(h:fn.results=#[.cell p 43,.tmp u,.tmp u2])(tmps w){b v0 v1 v2 v3 v4 v5 v6}(hp:tmps.getD p undef = iq b 0)(hb:dH w b [v0,v1,v2,v3,v4,v5,v6]):
 (results fn tmps).run prog w = .ok (.tuple #[.agg #[v0,v1,v2,v3,v4,v5,v6],tmps.getD u undef,tmps.getD u2 undef]) w:=by
 rw[NR h,hp];have:=Kg w b _ _ _ _ _ _ _ (hb.cell 0 _ rfl) (hb.cell 1 _ rfl) (hb.cell 2 _ rfl) (hb.cell 3 _ rfl) (hb.cell 4 _ rfl) (hb.cell 5 _ rfl) (hb.cell 6 _ rfl);simp[asAddr,Result.andThen,this]
theorem Qw (l):∀u∈Ax l,u.oneCell'=true:=by
 intro u hu;obtain⟨s,_,hs⟩:=List.mem_flatMap.1 hu;exact Fb s u hs
structure DrQ (w:World) (P:Nat->Prop) (d:Dr) (fA:Option Addr) (fc:Nat) (aA:Option Addr) (ac:Nat) (al:List El) (dA:Option Addr) (dc:Nat):Prop where
 f:dM w P 4 fA d.fs.length fc (AZ d.fs)
 a:EnQ w P aA ac al
 e:al.map El.p=d.adds
 dr:dM w P 1 dA d.drops.length dc (AY d.drops)
 an:al.length<=1000000
 dn:d.drops.length<=1000000
def I1 (w:World) (Q:Nat->Prop) (r:Nat×Sn×List En) (e:Ending) (w':World):Prop:=
 ∃(i0 i1 i2 i3 i4:UInt64) (i5:UInt32) (A6:Option Addr) (n6 c6:Nat) (A:Option Addr) (k:Nat) (out:List El),e = .returned (.tuple #[.agg #[il i0.toNat,il i1.toNat,il i2.toNat,il i3.toNat,il i4.toNat,im i5.toNat,.slice A6 n6 c6],.slice A out.length k,io (r.1:Int)])/\Below w.heap.size w w' /\
  (r.1=0->∃mA mc,(#[il i0.toNat,il i1.toNat,il i2.toNat,il i3.toNat,il i4.toNat,im i5.toNat,.slice A6 n6 c6]:Array Value)=#[il (r.2.1.id.toNat:Int),il (r.2.1.par.toNat:Int),il (r.2.1.seq.toNat:Int),il (r.2.1.off.toNat:Int),il (r.2.1.tim.toNat:Int),im (r.2.1.sch.toNat:Int),.slice mA r.2.1.ms.length mc]/\w'.ownsRow w.heap.size 9 1 (.slice mA r.2.1.ms.length mc) r.2.1.ms.length (AY r.2.1.ms)/\EnQ w' Q A k out/\out.map El.p=r.2.2)
def GM (q:UInt64) (x:El):El:= { x with p:=Id q x.p }
def EV (q:UInt64) (k:Nat) (l:List El):List El:=(l.take k).map (GM q)++l.drop k
def as1 (nw:Sn) (d:Dr) (l:List El):List El:=if d.rew=true then l else l.map (GM (nw.seq+1))
theorem Ig (nw d l):(as1 nw d l).length=l.length:=by
 unfold as1;split<;>simp
theorem Ln {nw d l}(h:l.map El.p=d.adds):(as1 nw d l).map El.p=FL nw d:=by
 unfold as1 FL;split
 .exact h
 rw[<-h,List.map_map,List.map_map];rfl
theorem Lo (q k l):(EV q k l).length=l.length:=by
 unfold EV;rw[AR,Ae,BN,F6];omega
theorem Xs {q k l}(hk:k<l.length):(EV q k l).getD k default=l.getD k default:=by
 unfold EV;have h1:((l.take k).map (GM q)).length=k:=by rw[Ae,BN];omega
 rw[BW,BW,It gd,h1,Nat.sub_self,List.getElem?_drop,Nat.add_zero]
theorem Xt {q k l}(hk:k<l.length):(EV q k l).set k (GM q (l.getD k default))=EV q (k+1) l:=by
 unfold EV;have h1:((l.take k).map (GM q)).length=k:=by rw[Ae,BN];omega
 rw[List.set_append_right _ _ gd,h1,Nat.sub_self,List.drop_eq_getElem_cons hk,AH,Cn,BF hk,Cv,Az];rw[BW,BF hk];rfl
theorem Xu {q l}:EV q l.length l=l.map (GM q):=by
 unfold EV;simp
theorem Qx (q):∀(l:List El) (k:Nat),k<l.length->(Ax l).set (k * 6+2) (il q.toNat)=Ax (l.set k (GM q (l.getD k default)))
 | a::l,0,_=>by
   rw[AH,FM,FM];simp[elV,GM,Id]
 | a::l,k+1,h=>by
   have ih:=Qx q l k (by simpa using h);have e:(k+1) * 6+2=(k * 6+2)+1+1+1+1+1+1:=gd;have e2:(a::l).getD (k+1) default=l.getD k default:=by simp[BW]
   rw[AI,e2,FM,FM,<-ih,e];simp[elV]
structure DrS (w W:World) (d:Dr) (nw:Sn) (id1 sq of_ tm:UInt64) (sh:UInt32) (b4 b6 b9 b11:Nat) (fA:Option Addr) (fc:Nat) (aA:Option Addr) (na ac:Nat) (dA:Option Addr) (dc:Nat) (mA:Option Addr) (mc:Nat) (gA:Option Addr) (gc:Nat) (l:List El):Prop where
 yd:dH W b4 [.bool d.rew,.slice fA d.fs.length fc,.slice aA na ac,.slice dA d.drops.length dc,il d.off.toNat,il d.tim.toNat]
 y6:dH W b6 [il 0,il 0,il 0,il 0,il 0,im 0,ir]
 y9:dH W b9 [il nw.id.toNat,il nw.par.toNat,il nw.seq.toNat,il nw.off.toNat,il nw.tim.toNat,im nw.sch.toNat,.slice mA nw.ms.length mc]
 y11:dH W b11 [il id1.toNat,il nw.id.toNat,il sq.toNat,il of_.toNat,il tm.toNat,im sh.toNat,ir]
 ads:W.ownsRow w.heap.size 97 6 (.slice gA l.length gc) l.length (Ax l)
 mo:W.ownsRow w.heap.size 9 1 (.slice mA nw.ms.length mc) nw.ms.length (AY nw.ms)
 b:Below w.heap.size w W
section
variable {w W W':World} {d:Dr} {nw:Sn} {id1 sq of_ tm:UInt64} {sh:UInt32} {b4 b6 b9 b11 fc na ac dc mc gc:Nat} {fA aA dA mA gA:Option Addr} {l:List El}
theorem DrS.keep (h:DrS w W d nw id1 sq of_ tm sh b4 b6 b9 b11 fA fc aA na ac dA dc mA mc gA gc l)(hb:Below W.heap.size W W'):DrS w W' d nw id1 sq of_ tm sh b4 b6 b9 b11 fA fc aA na ac dA dc mA mc gA gc l:=
 ⟨h.yd.keep hb h.yd.z,h.y6.keep hb h.y6.z,h.y9.keep hb h.y9.z,h.y11.keep hb h.y11.z,Ag h.ads hb,Ag h.mo hb,AM h.b h.b.size hb⟩
theorem DrS.early (h:DrS w W d nw id1 sq of_ tm sh b4 b6 b9 b11 fA fc aA na ac dA dc mA mc gA gc l)(h6:w.heap.size<=b6){Q}{r:Nat×Sn×List En}{er}(hr:r.1=er)(h0:er≠0){i0 i1 i2 i3 i4:UInt64}{i5:UInt32}{A6 n6 c6}:
 I1 w Q r (.returned (.tuple #[.agg #[il i0.toNat,il i1.toNat,il i2.toNat,il i3.toNat,il i4.toNat,im i5.toNat,.slice A6 n6 c6],ir,io er])) (Proofs.YtpfofefecamkfaaGreatDoor.set7b W b6 (il i0.toNat) (il i1.toNat) (il i2.toNat) (il i3.toNat) (il i4.toNat) (im i5.toNat) (.slice A6 n6 c6)):=
 ⟨_,_,_,_,_,_,_,_,_,none,0,[],by rw[hr];rfl,Xr h.b h6,λq=>absurd q (by rw[hr];exact h0)⟩
end
structure DrN (b4 b6 b9 b11:Nat) (gA:Option Addr) (n gc:Nat) (mA:Option Addr) (m mc:Nat):Prop where
 l46:b4<b6
 l69:b6<b9
 l911:b9<b11
 ads:∀g,(Value.slice gA n gc).ownBlock=some g->b11<g
 mo:∀g,(Value.slice mA m mc).ownBlock=some g->b6<g/\g<b9
section
variable {w W W':World} {d:Dr} {nw:Sn} {id1 sq of_ tm s0 o0:UInt64} {sh:UInt32} {b4 b6 b9 b11 fc na ac dc mc gc:Nat} {fA aA dA mA gA:Option Addr} {l l2:List El}
theorem DrS.move11 (h:DrS w W d nw id1 s0 o0 tm sh b4 b6 b9 b11 fA fc aA na ac dA dc mA mc gA gc l)(hn:DrN b4 b6 b9 b11 gA l.length gc mA nw.ms.length mc)(h0:w.heap.size<=b6)(o:Oth b11 W W')(hy:dH W' b11 [il id1.toNat,il nw.id.toNat,il sq.toNat,il of_.toNat,il tm.toNat,im sh.toNat,ir]):DrS w W' d nw id1 sq of_ tm sh b4 b6 b9 b11 fA fc aA na ac dA dc mA mc gA gc l:=by
 have:=hn.l46;have:=hn.l69;have:=hn.l911;refine⟨h.yd.oth o gd,h.y6.oth o gd,h.y9.oth o gd,hy,Bn h.ads λg hg hl=>o.block g hl (by have:=hn.ads g hg;omega),Bn h.mo λg hg hl=>o.block g hl (by have:=hn.mo g hg;omega),h.b.trans (o.belowB gd h.b.size)⟩
theorem DrS.two (h:DrS w W d nw id1 s0 o0 tm sh b4 b6 b9 b11 fA fc aA na ac dA dc mA mc gA gc l)(hn:DrN b4 b6 b9 b11 gA l.length gc mA nw.ms.length mc)(h0:w.heap.size<=b6):DrS w ((W.setCell (gX b11 2) (il sq.toNat)).setCell (gX b11 3) (il of_.toNat)) d nw id1 sq of_ tm sh b4 b6 b9 b11 fA fc aA na ac dA dc mA mc gA gc l:=
 h.move11 hn h0 (((Oth.refl b11 W).set 2 _).set 3 _) ((h.y11.set (j:=2) (il sq.toNat) rfl).set (j:=3) (il of_.toNat) rfl)
theorem DrS.drew (h:DrS w W d nw id1 sq of_ tm sh b4 b6 b9 b11 fA fc aA na ac dA dc mA mc gA gc l):DrS w W.drew d nw id1 sq of_ tm sh b4 b6 b9 b11 fA fc aA na ac dA dc mA mc gA gc l:=h.keep ((AC _ _).drew)
theorem DrS.moveG (h:DrS w W d nw id1 sq of_ tm sh b4 b6 b9 b11 fA fc aA na ac dA dc mA mc gA gc l)(hn:DrN b4 b6 b9 b11 gA l.length gc mA nw.ms.length mc)(h0:w.heap.size<=b6){g}(hg:b11<g)(o:Oth g W W')(ho:W'.ownsRow w.heap.size 97 6 (.slice gA l2.length gc) l2.length (Ax l2)):DrS w W' d nw id1 sq of_ tm sh b4 b6 b9 b11 fA fc aA na ac dA dc mA mc gA gc l2:=by
 have:=hn.l46;have:=hn.l69;have:=hn.l911;refine⟨h.yd.oth o gd,h.y6.oth o gd,h.y9.oth o gd,h.y11.oth o gd,ho,Bn h.mo λg hg hl=>o.block g hl (by have:=hn.mo g hg;omega),h.b.trans (o.belowB gd h.b.size)⟩
theorem DrS.few {Q r sn es}(h:DrS w W d nw id1 sq of_ tm sh b4 b6 b9 b11 fA fc aA na ac dA dc mA mc gA gc l)(hn:DrN b4 b6 b9 b11 gA l.length gc mA nw.ms.length mc)(h0:w.heap.size<=b6)(hQ:∀k,w.heap.size<=k->Q k)(ins:∀x∈l,dM w Q 10 x.A x.p.stats.length x.c (BH x.p.stats))(hr:r=(0,sn,es))(he:l.map El.p=es)(h1:sn.id=id1)(h2:sn.par=nw.id)(h3:sn.seq=sq)(h4:sn.off=of_)(h5:sn.tim=tm)(h6:sn.sch=sh)(h7:sn.ms=nw.ms):
 I1 w Q r (.returned (.tuple #[.agg #[il id1.toNat,il nw.id.toNat,il sq.toNat,il of_.toNat,il tm.toNat,im sh.toNat,.slice mA nw.ms.length mc],.slice gA l.length gc,io 0])) (Proofs.YtpfofefecamkfaaGreatDoor.set7b (W.setCell (gX b11 6) (.slice mA nw.ms.length mc)) b6 (il id1.toNat) (il nw.id.toNat) (il sq.toNat) (il of_.toNat) (il tm.toNat) (im sh.toNat) (.slice mA nw.ms.length mc)):=by
 have:=hn.l46;have:=hn.l69;have:=hn.l911;have o1:=(Oth.refl b11 W).set 6 (.slice mA nw.ms.length mc);have o2:=EU (W.setCell (gX b11 6) (.slice mA nw.ms.length mc)) b6 (il id1.toNat) (il nw.id.toNat) (il sq.toNat) (il of_.toNat) (il tm.toNat) (im sh.toNat) (.slice mA nw.ms.length mc);have hb:Below w.heap.size w (Proofs.YtpfofefecamkfaaGreatDoor.set7b (W.setCell (gX b11 6) (.slice mA nw.ms.length mc)) b6 (il id1.toNat) (il nw.id.toNat) (il sq.toNat) (il of_.toNat) (il tm.toNat) (im sh.toNat) (.slice mA nw.ms.length mc)):=(h.b.trans (o1.belowB gd h.b.size)).trans (o2.belowB gd (by have:=h.b.size;have:=o1.size;omega));subst hr;refine⟨id1,nw.id,sq,of_,tm,sh,mA,nw.ms.length,mc,gA,gc,l,rfl,hb,λ_=>⟨mA,mc,?_,?_,⟨?_,?_⟩,he⟩⟩
 .show _=((dO sn mA mc):Array Value);unfold dO;rw[h1,h2,h3,h4,h5,h6,h7]
 .show World.ownsRow _ w.heap.size _ 1 (.slice mA sn.ms.length mc) sn.ms.length (AY sn.ms);rw[h7];refine Bn (Bn h.mo λg hg hl=>o1.block g hl (by have:=hn.mo g hg;omega)) λg hg hl=>o2.block g hl (by have:=hn.mo g hg;omega)
 .exact .own (Bn (Bn h.ads λg hg hl=>o1.block g hl (by have:=hn.ads g hg;omega)) λg hg hl=>o2.block g hl (by have:=hn.ads g hg;omega)) λk hk _=>hQ k hk
 exact λx hx=>(ins x hx).low hb
theorem DrS.all {Q r sn es A k B}(h:DrS w W d nw id1 sq of_ tm sh b4 b6 b9 b11 fA fc aA na ac dA dc mA mc gA gc l)(h0:w.heap.size<=b6)(hQ:∀k,w.heap.size<=k->Q k)(hB:w.heap.size<=B)(h6B:b6<B)(own:W.ownsRow B 97 6 (.slice A l2.length k) l2.length (Ax l2))(ins:∀x∈l2,dM W (λk=>Q k/\k≠b6) 10 x.A x.p.stats.length x.c (BH x.p.stats))(hr:r=(0,sn,es))(he:l2.map El.p=es)(h1:sn.id=id1)(h2:sn.par=nw.id)(h3:sn.seq=sq)(h4:sn.off=of_)(h5:sn.tim=tm)(h6:sn.sch=sh)(h7:sn.ms=[]):
 I1 w Q r (.returned (.tuple #[.agg #[il id1.toNat,il nw.id.toNat,il sq.toNat,il of_.toNat,il tm.toNat,im sh.toNat,ir],.slice A l2.length k,io 0])) (Proofs.YtpfofefecamkfaaGreatDoor.set7b W b6 (il id1.toNat) (il nw.id.toNat) (il sq.toNat) (il of_.toNat) (il tm.toNat) (im sh.toNat) ir):=by
 have o2:=EU W b6 (il id1.toNat) (il nw.id.toNat) (il sq.toNat) (il of_.toNat) (il tm.toNat) (im sh.toNat) ir;have hb:Below w.heap.size w (Proofs.YtpfofefecamkfaaGreatDoor.set7b W b6 (il id1.toNat) (il nw.id.toNat) (il sq.toNat) (il of_.toNat) (il tm.toNat) (im sh.toNat) ir):=h.b.trans (o2.belowB gd h.b.size);subst hr;refine⟨id1,nw.id,sq,of_,tm,sh,none,0,0,A,k,l2,rfl,hb,λ_=>⟨none,0,?_,?_,⟨?_,?_⟩,he⟩⟩
 .show _=(#[il sn.id.toNat,il sn.par.toNat,il sn.seq.toNat,il sn.off.toNat,il sn.tim.toNat,im sn.sch.toNat,.slice none sn.ms.length 0]:Array Value);rw[h1,h2,h3,h4,h5,h6,h7];rfl
 .show World.ownsRow _ w.heap.size _ 1 (.slice none sn.ms.length 0) sn.ms.length (AY sn.ms);rw[h7];exact Av _ _ _ _
 .exact .own (Bn own λg hg hl=>o2.block g hl (by have:=(own.lt g hg).1;omega)) λk hk _=>hQ k gd
 exact λx hx=>((ins x hx).keep o2.size λp hp hl=>o2.cell hl hp.2).imp λk hk _=>hk.1
end
theorem dQ.any {w B c A l}(h:dQ w B A c l):(A=none/\c=0/\l=[])\/∃g,A=some ⟨g,0,none⟩/\B<=g/\g<w.heap.size:=by
 rcases h.own.2 with ⟨q,hx⟩|⟨g,cap,cur,q,hb,hc,_⟩
 .left;injection q with q1 q2 q3;exact⟨q1,q3,List.length_eq_zero_iff.1 q2⟩
 right;injection q with q1 q2 q3;exact⟨g,q1,hb,(EX.1 hc).1⟩
theorem Xw {l:List El}{old}(h:l.map El.p=old)(s):(l.any λx=>x.p.name.toList==s.toList)=Eo old s:=by
 unfold Eo;rw[<-h,List.any_map];rfl
theorem Xx {l:List El}{es}(h:l.map El.p=es)(q:UInt64):(l.any λx=>decide (q.toNat<x.p.seq.toNat))=es.any λx=>decide (q.toNat<x.seq.toNat):=by
 rw[<-h,List.any_map];rfl
theorem Xy {l:List ByteArray}{p}(h:∀j,j<l.length->p (l.getD j default)=true):l.all p=true:=by
 rw[Da];intro x hx;obtain⟨i,hi,rfl⟩:=EZ.1 hx;have:=h i hi
 rwa [BW,BF hi]at this
theorem Xz {l:List ByteArray}{p x}(hx:x∈l)(h:p x=false):l.all p=false:=by
 rw[<-Bool.not_eq_true,Da];intro q;have:=q x hx;rw[h]at this;cases this
theorem Qy {l:List El}{old}(h:l.map El.p=old)(ds):((l.filter λx=>!DO ds x.p.name).map El.p)=old.filter λx=>!DO ds x.name:=by
 rw[<-h,List.filter_map];rfl
theorem Y0 (a b):Ax (a++b)=Ax a++Ax b:=by simp[Ax]
theorem Qz {w Q nw d l}(h:∀x∈l,dM w Q 10 x.A x.p.stats.length x.c (BH x.p.stats)):∀x∈as1 nw d l,dM w Q 10 x.A x.p.stats.length x.c (BH x.p.stats):=by
 unfold as1;split
 .exact h
 intro x hx;obtain⟨y,hy,rfl⟩:=CG.1 hx;exact h y hy
theorem Y1 {nw d old}{out al:List El}(h:out.map El.p=old)(h2:al.map El.p=d.adds):(E7 nw d old).length=(out.filter λx=>!DO d.drops x.p.name).length+al.length:=by
 have h3:=congrArg List.length (Qy h d.drops);have h4:=congrArg List.length (Ln (nw:=nw) h2);rw[Ae]at h3 h4;rw[Ig]at h4;unfold E7;rw[AR,<-h3,<-h4]
section
open Go.ChangeShapes Go.WideShapes Go.ChangeAt Go.RowKit Go.Deep Go.Joins
theorem Y5 {H:Type}{enc:TypeId×Value->H}{P w base sp held fuel t}{ms:Array (String×TypeId)}{cs nm d p}(ht:P.underlying t=some (.interface ms))(h:DataW.trod enc P w base sp held fuel t cs=some (.iface nm d,p)):∃tp v,cs=[.iface tp v]:=by
 cases fuel with
 | zero=>simp[DataW.trod]at h
 | succ fuel=>
   unfold DataW.trod at h;rw[ht]at h;split at h;all_goals first|exact⟨_,_,rfl⟩|(simp_all;done)|(simp at h;done)
theorem YB:(prog.globals[2]?).map (·.type)=some 230:=gh
theorem YC:(prog.globals[3]?).map (·.type)=some 329:=gh
theorem YD:(prog.globals[0]?).map (·.type)=some 313:=gh
theorem YE:prog.globalNamed "catchment/crc.half" = some 0:=gh
def Jx:List Int:=[0,498536548,997073096,651767980,1994146192,1802195444,1303535960,1342533948,3988292384,4027552580,3604390888,3412177804,2607071920,2262029012,2685067896,3183342108]
theorem YF:∀j,j<16->Jx.getD j 0=((Crc.tab j).toNat:Int):=gm
theorem YG:Rows.laid_internal_strconv_uint64pow10 (H:=Unit)=Lib.tabData .u64 Lib.pow10Tab:=by
 unfold Rows.laid_internal_strconv_uint64pow10 Lib.tabData Lib.pow10Tab;rfl
theorem YH {W}(h:laidMetH prog Rows.catalogOthersRow.laid W):Tabs W:=by
 rw[MakeChecks.laidMetH_plain _ _ _ gh]at h;have hm:("catchment/crc.half",Rows.laid_catchment_crc_half (H:=Unit))∈Rows.catalogOthersRow.laid:=.tail _ (.tail _ (.tail _ (.tail _ (.head _))));have hp:("internal/strconv.uint64pow10",Rows.laid_internal_strconv_uint64pow10 (H:=Unit))∈Rows.catalogOthersRow.laid:=.tail _ (.tail _ (.head _));have hr:("strconv.ErrRange",Rows.laid_strconv_ErrRange (H:=Unit))∈Rows.catalogOthersRow.laid:=.tail _ (.tail _ (.tail _ (.tail _ (.tail _ (.head _)))));have hs:("math/bits.deBruijn64tab",Rows.laid_math_bits_deBruijn64tab (H:=Unit))∈Rows.catalogOthersRow.laid:=.tail _ (.head _);refine⟨?_,?_,?_,?_⟩
 .obtain⟨g,t,cs,fuel,p,hg,ht,hv,hd⟩:=Lib.laidMet.reads h hm;obtain rfl:=EW (YE.symm.trans hg);obtain rfl:=EW (YD.symm.trans ht);have e:cs.toList=Jx.map (Value.int .u32):=Lib.cells_of_tab underlying313 underlying30 gh gh hd;intro j hj;have h1:=World.var?_cell hg hv j;refine h1.trans ?_;rw[<-Array.getElem?_toList,e,DY,BF (show j<Jx.length from hj),<-YF j hj];simp[List.getD,BF (show j<Jx.length from hj)]
 .obtain⟨g,t,cs,fuel,p,hg,ht,hv,hd⟩:=Lib.laidMet.reads h hp;obtain rfl:=EW (Po.symm.trans hg);obtain rfl:=EW (YC.symm.trans ht);rw[YG]at hd;have e:cs.toList=Lib.pow10Tab.map (Value.int .u64):=Lib.cells_of_tab underlying329 underlying35 gh gh hd;unfold Lib.TabIs;rw[hv,<-e]
 .obtain⟨g,t,cs,fuel,p,hg,ht,hv,hd⟩:=Lib.laidMet.reads h hr;obtain rfl:=EW (Pp.symm.trans hg);obtain rfl:=EW (YB.symm.trans ht);obtain⟨tp,v,e⟩:=Y5 underlying230 hd;refine⟨tp,v,?_⟩;rw[hv,<-Array.toArray_toList (xs:=cs),e]
 obtain⟨g,t,cs,fuel,p,hg,ht,hv,hd⟩:=Lib.laidMet.reads h hs;obtain rfl:=EW ((show prog.globalNamed "math/bits.deBruijn64tab" = some 8 by kernel_rfl).symm.trans hg);unfold World.var? at hv;rw[hg,Option.bind_some]at hv;rcases Nat.lt_or_ge 8 W.heap.size with hl|hl
 .exact hl
 rw[Array.getElem?_eq_none hl]at hv;cases hv
theorem YI (os args):laidMet prog Rows.catalogOthersRow.laid ((World.laidAll prog os Rows.catalogOthersRow.laid).forCall (λ_ _=>0) ⟨#[],args,[]⟩).memory:=
 laidMet_laidAll args gh gh
end
structure Op15 where
 kind:UInt8
 who:Bool
 d:Dr
 nm:ByteArray
 shape:UInt8
 ids:List UInt64
 bs:List UInt8
 n:Int
 keep:List Int
 al:List El
 fA:Option Addr
 fc:Nat
 aA:Option Addr
 ac:Nat
 dA:Option Addr
 dc:Nat
 iA:Option Addr
 ic:Nat
 bA:Option Addr
 bc:Nat
 kA:Option Addr
 kc:Nat
structure OpQ (w:World) (P:Nat->Prop) (o:Op15):Prop where
 f:dM w P 4 o.fA o.d.fs.length o.fc (AZ o.d.fs)
 a:EnQ w P o.aA o.ac o.al
 e:o.al.map El.p=o.d.adds
 dr:dM w P 1 o.dA o.d.drops.length o.dc (AY o.d.drops)
 i:dM w P 1 o.iA o.ids.length o.ic (CY o.ids)
 b:dM w P 1 o.bA o.bs.length o.bc (AO o.bs)
 k:dM w P 1 o.kA o.keep.length o.kc (o.keep.map (.int .i64))
 n0 : -9223372036854775808<=o.n
 n1:o.n<=9223372036854775807
 nm:o.nm.size<=9223372036854775807
structure Op15.sm (o:Op15):Prop where
 f:o.d.fs.length<=20
 fs:Lf o.d.fs
 a:o.al.length<=70
 as_:SmE o.al
 d:o.d.drops.length<=50
 i:o.ids.length<=50
 b:o.bs.length<=2000
 nm:o.nm.size<=500
 t1:o.bs.take 3≠[84,70,49]
 t2:o.bs.take 3≠[77,70,49]
 ds:∀x∈o.d.drops,x.size<=500
def MV (w:World) (o:Op15) (e:Ending) (w':World):Prop:= ∃g,e = .returned (.bool g)/\(g=false->o.sm)/\Below w.heap.size w w'
def Ip (b:Bool) (l:List UInt8):Prop:=b=false->l≠[84,70,49]/\l≠[77,70,49]
theorem SK (l b):((⟨l.toArray⟩:ByteArray).toList==b)=decide (l=b):=by
 rw[EM];show(l==b)=_;rw[Cx,Ap,decide_eq_true_iff]
theorem Ra:STy prog 56 3 1 8 (io 0):=⟨underlying56,gh,rfl,gm,gm⟩
theorem Ed.none_left (b):Ed ir b:=λk h=>by simp[Value.ownBlock]at h
def CU (s:ByteArray):Nat->Nat->List Nat
 | 0,_=>[]
 | b+1,p=>if p<s.size then p::CU s b (p+wid s p) else []
def Cb (s:ByteArray):List Nat:=CU s s.size 0
theorem ZG (s b p)(h:¬p<s.size):CU s b p=[]:=by
 cases b with
 | zero=>rfl
 | succ b=>simp[CU,h]
theorem Rb (s b p)(h:p<s.size)(hb:s.size<=p+b):∃b',CU s b p=p::CU s b' (p+wid s p)/\s.size<=p+wid s p+b':=by
 have:=F8 s p h;cases b with
 | zero=>omega
 | succ b=>exact⟨b,by simp[CU,h],gd⟩
theorem Rc (s q):∀b p,(CU s b p).all q=Bx s q b p:=by
 intro b;induction b with
 | zero=>intro p;rfl
 | succ b ih=>
   intro p;by_cases h:p<s.size
   .simp only[CU,Bx,h,if_true,List.all_cons,ih]
   simp[CU,Bx,h]
theorem MD (s):∀b p,(CU s b p).length<=s.size-p:=by
 intro b;induction b with
 | zero=>intro p;simp[CU]
 | succ b ih=>
   intro p;by_cases h:p<s.size
   .have:=F8 s p h;have:=ih (p+wid s p);simp only[CU,h,if_true,Bg];omega
   simp[CU,h]
theorem ZH (s):(Cb s).all (Dk s)=Fn s:=Rc s _ _ _
theorem Re (s):(Cb s).all (FR s)=Fo s:=Rc s _ _ _
def Ij (n:Nat):Value:=io n
def Ik (s:ByteArray) (l:List Nat):List Value:=l.map λp=>Ij (sgn s p)
def ME (l:List Nat):List Value:=l.map Ij
theorem Rf (s p):sgn (s.extract p s.size) 0=sgn s p:=by unfold sgn;rw[Lib.tail_decode];rfl
theorem Rg (s p):wid (s.extract p s.size) 0=wid s p:=by unfold wid;rw[Lib.tail_decode];rfl
theorem ZI (s p):Dk (s.extract p s.size) 0=Dk s p:=by unfold Dk;rw[Rf,Rg]
theorem ZJ (s p):wid s p<=4:=by
 unfold wid;rw[Lib.decode_at];unfold Lib.decodeN
 repeat' split
 all_goals simp
theorem ZL (s):∀b p q,q∈CU s b p->p<=q:=by
 intro b;induction b with
 | zero=>intro p q h;simp[CU]at h
 | succ b ih=>
   intro p q h;by_cases hp:p<s.size
   .simp only[CU,hp,if_true,List.mem_cons]at h;rcases h with rfl|h
    .exact AD _
    have:=ih _ _ h;omega
   simp[CU,hp]at h
theorem ZM (s k)(h:k<(Cb s).length):(0<k)↔(0<(Cb s)[k]):=by
 have:=MD s s.size 0;have I:0<s.size:=by unfold Cb at h;omega
 obtain⟨b',h1,_⟩:=Rb s s.size 0 I gd;have G:Cb s=0::CU s b' (0+wid s 0):=h1;have:=F8 s 0 I;cases k with
 | zero=>
   have:(Cb s)[0]=0:=by simp only[G,List.getElem_cons_zero]
   omega
 | succ k=>
   have hk:k<(CU s b' (0+wid s 0)).length:=by rw[G]at h;simpa using h
   have e:(Cb s)[k+1]=(CU s b' (0+wid s 0))[k]:=by simp only[G,List.getElem_cons_succ]
   have:=ZL s b' (0+wid s 0) _ (List.getElem_mem hk);rw[e];omega
theorem ZN (s):(Cb s).length<=s.size:=MD s _ _
theorem ZO (l s k)(hk:k<l.length)(h:((l.getD k default).name.toList==s.toList)=true):CW l s=true:=by
 unfold CW;rw[List.any_eq_true];exact⟨l[k],List.getElem_mem hk,by simpa [List.getD,hk]using h⟩
theorem ZP (l s)(h:∀j,j<l.length->((l.getD j default).name.toList==s.toList)=false):CW l s=false:=by
 unfold CW;rw[List.any_eq_false];intro f hf;obtain⟨j,hj,rfl⟩:=EZ.1 hf;have:=h j hj;simp[List.getD,hj]at this;simpa using this
section
variable {l:List Fd} {k:Nat} {f:Fd} (hf:l.getD k default=f)
include hf
end
theorem ZQ (l):D8 l 0=0:=rfl
theorem ZR (l){k m}(h:0<k)(hm:m=k-1):D8 l k=(l.getD m default).id.toNat:=by unfold D8;rw[AE gd,hm]
theorem Rh (w B n c A l)(hr:Rd w B 4 A n c (AZ l))(s)(hmax:l.length<=1000000):
 Calls prog 72 #[.slice A n c,.string s] w λe w'=>e = .returned (.bool (CW l s))/\w=w':=by
 obtain rfl:=hr.lenF;go_enter func72,ntmps72;go_wp2_with fail
 go_loopw [5] (λiv wr=>∃k:Nat,k<=l.length/\iv = io k/\ga (∀j,j<k->((l.getD j default).name.toList==s.toList)=false)/\w=wr) (λiv _=>l.length-(intOf iv).toNat);case atStart=>exact⟨0,AU _,rfl,AB (λj h=>gd),rfl⟩
 case round=>
  obtain⟨k,hk,rfl,hf,rfl⟩:=hrel;by_cases G:k<l.length
  .obtain⟨b,off,rfl,hb,_,h1,_,_⟩:=hr.fd G;generalize I:(l.getD k default).name=nm at *;have O:=AB I;clear I;cases hq:(nm.toList==s.toList)with
   | true=>
     (go_wp2_with fail);go_ret;exact⟨by rw[ZO l s k G (by rw[O.o];exact hq)];rfl,rfl⟩
   | false=>
     (go_wp2_with fail);go_roundw;case rel=>
      refine⟨k+1,gd,by go_num,AB (λj hj=>?_),trivial⟩;by_cases e:j=k
      .rw[e,O.o];exact hq
      exact hf.o j gd
     case measure=>exact Co k _ G
  obtain rfl:k=l.length:=gd;go_wp2_with fail
  go_ret;exact⟨by rw[ZP l s hf.o];rfl,rfl⟩
theorem ZS (k:Nat):∀(n:Int) (w:World),0<=n->n<=k->ga (n<=18446744073709551615) ->
 Calls prog 136 #[.int .u64 n] w (EA w (Var.put n.toNat)):=by
 induction k with
 | zero=>
   intro n w h0 hk H1;obtain rfl:n=0:=gd;go_enter func136,ntmps136;(go_wp2_with fail);go_ret;refine⟨_,rfl,?_,(AC _ _).alloc (AD _) _⟩;have:=Ew w 5 1 1 #[.int .u8 0] (AD _) gm rfl;simpa [Var.put_lt,AO,DG]using this
 | succ k ih=>
   intro n w h0 hk H1;have IH:=AB ih;clear ih;obtain⟨N,rfl⟩:=Int.eq_ofNat_of_zero_le h0;rw[BM];by_cases O:N<128
   .have ht:decide ((N:Int)<(128:Int))=true:=gt;go_enter func136,ntmps136;(go_wp2_with fail);go_ret;refine⟨_,rfl,?_,(AC _ _).alloc (AD _) _⟩;have:=Ew w 5 1 1 #[.int .u8 N] (AD _) gm rfl;rw[KY O]at this;rw[KY O,Var.put_lt O];simpa [AO]using this
   have ht:decide ((N:Int)<(128:Int))=false:=gt;have hq:IntKind.u64.wrap ((N:Int)/128)=(N:Int)/128:=IntWalk.u64_in _ ⟨gd,by have:=H1.o;omega⟩;go_enter func136,ntmps136;(go_wp2_with fail);refine(IH.o _ _ gd gd (AB (by have:=H1.o;omega))).mono ?_;rintro e w1 ⟨v1,rfl,hown1,hb1⟩;have hp:((N:Int)/128).toNat=N/128:=gd;rw[hp]at hown1;have I:=Ag (Ew w (base:=w.heap.size) 5 1 1 #[.int .u8 ((N:Int) % 128+128)] (AD _) gm rfl) hb1;have ab:=Var.put_le10 (n:=N/128) (by have:=H1.o;omega);have hz:=hb1.size;simp only[World.size_alloc]at hz;have Z:Below w.heap.size w w1:=((AC _ _).alloc (AD _) _).trans (hb1.mono gj);obtain⟨A,c,rfl,hr⟩:=Rd.of_own hown1;clear hp hq;go_wp2_with (at_builtin;go_loud (refine Aw _ As rfl _ _ rfl w.heap.size _ _ _ rfl I w1.heap.size _ _ _ _ rfl hr (Bb _) ?c2 ?c3 ?_))
   case c2=>omega
   case c3=>omega
   intro v2 w2 G T V;have aa:Below w.heap.size w w2:=Au Z (AD _) I T gd;clear T V;go_wp2;go_ret;refine⟨v2,rfl,?_,aa⟩;rw[Var.put_ge gd];have e:Value.int .u8 ((N:Int) % 128+128)=DG (UInt8.ofNat (N % 128+128)):=by
    unfold DG;rw[Var.toNat_ofNat_lt gd];congr 1
   rw[e]at G;simpa [AO,Nat.add_comm]using G
theorem FN (n w)(h0:0<=n)(h1:n<=18446744073709551615):
 Calls prog 136 #[il n] w (EA w (Var.put n.toNat)):=
 ZS n.toNat n w h0 gd (AB h1)
theorem ZT (n b0 b1 b2 b3)(h:128<=b0):128<=(Lib.decodeN n b0 b1 b2 b3).1:=by
 unfold Lib.decodeN;rw[AE gd]
 repeat' split
 all_goals simp only[]
 all_goals omega
theorem Ri {b}(h:128<=b):okP b=false:=by unfold okP;exact AG gd
theorem Rj (s p):BE s p=okP (s.get! p).toNat/\(BE s p=true->wid s p=1):=by
 unfold BE sgn wid;rw[Lib.decode_at];by_cases h:(s.get! p).toNat<128
 .rw[Mq _ _ _ _ _ h];exact⟨rfl,λ_=>rfl⟩
 have h1:=Ri (ZT (s.size-p) (s.get! p).toNat (s.get! (p+1)).toNat (s.get! (p+2)).toNat (s.get! (p+3)).toNat gd);rw[h1,Ri (show 128<=(s.get! p).toNat by omega)];exact⟨rfl,λq=>gu⟩
theorem ZU (s):∀b p,s.size<=p+b->(∀j,p<=j->j<s.size->okP (s.get! j).toNat=true)->Bx s (BE s) b p=true:=by
 intro b;induction b with
 | zero=>intro p h _;exact GV _ _ _ _ gd
 | succ b ih=>
   intro p h G;by_cases hp:p<s.size
   .obtain⟨h1,h2⟩:=Rj s p;have h3:BE s p=true:=by rw[h1];exact G p (AD _) hp
    unfold Bx;rw[AJ hp,h3,CV,h2 h3];exact ih _ gd λj hj I=>G j gd I
   exact GV _ _ _ _ hp
theorem ZV (s j)(hj:j<s.size)(hb:okP (s.get! j).toNat=false):∀b p,p<=j->s.size<=p+b->Bx s (BE s) b p=false:=by
 intro b;induction b with
 | zero=>intro p h1 h2;omega
 | succ b ih=>
   intro p h1 h2;obtain⟨q1,q2⟩:=Rj s p;cases h3:BE s p with
   | false=>exact Dm _ _ _ _ gd h2 h3
   | true=>
     unfold Bx;rw[AJ gd,h3,CV,q2 h3];have:p≠j:=by rintro rfl;rw[q1]at h3;rw[h3]at hb;cases hb
     exact ih _ gd gd
theorem ZW (t:ByteArray):∀k (h:k<t.size),t[k]'h=t.get! k:=λk h=>by
 cases t with
 | mk d=>exact(getElem!_pos d k h).symm
theorem ZX {s k}(hk:k<s.size)(hb:okP (s.get! k).toNat=false):Aq s=false:=by
 unfold Aq;rw[ZV s k hk hb s.size 0 (AU _) gd,Bool.and_false]
theorem ZY {s k}(h:s.size<=k\/30<=k)(hf:∀j,j<k->okP (s.get! j).toNat=true):Aq s=(decide (1<=s.size)&&decide (s.size<=24)):=by
 unfold Aq;by_cases G:s.size<=24
 .rw[ZU s s.size 0 gd λj _ hj=>hf j gd,Bool.and_true]
 rw[AG G];simp
theorem ZZ (w sA sc ss nA nc ns cur)(hT:TabR w w.heap.size sA sc ss nA nc ns)(id:UInt32):
 Calls prog 183 #[.agg (dP sA ss.length sc nA ns.length nc cur),im id.toNat] w λe w'=>e = .returned (io (ixA (λf=>(f.id.toNat:Int)==(id.toNat:Int)) ss))/\Below w.heap.size w w':=by
 have:ss.length<=9223372036854775807:=by have:=hT.srow.le;have h2:=hT.srow.cap;unfold maxLen at h2;omega
 go_enter func183,ntmps183;go_wp2_with fail
 have x1:=Dc w (dP sA ss.length sc nA ns.length nc cur) 39;have G:=(hT.below x1.below).more x1.below.size;have I:=x1.below;have:=x1.cell 0 _ rfl;generalize w.alloc _=w1 at *;clear x1 hT;generalize O:w.heap.size=bx at *;have T:=AB O;clear O;have V:=G.srow;clear G;go_loop [5] (λiv=>∃k:Nat,k<=ss.length/\iv = io k/\ga (∀j,j<k->(((ss.getD j default).id.toNat:Int)==(id.toNat:Int))=false)) (λiv=>ss.length-(intOf iv).toNat);case atStart=>exact⟨0,AU _,rfl,AB (λj h=>gd)⟩
 case round=>
  obtain⟨k,hk,rfl,hf⟩:=hrel;by_cases Z:k<ss.length
  .obtain⟨b,off,rfl,hb,f0,_⟩:=V.sl Z;cases hq:((ss.getD k default).id.toNat:Int)==(id.toNat:Int)with
   | true=>
     have HI:ga (ixA (λf:Sl=>(f.id.toNat:Int)==(id.toNat:Int)) ss=(k:Int)):=AB (FA Z hq hf.o);generalize (ss.getD k default).id.toNat=x at *;go_wp2;go_ret;exact⟨by rw[HI.o];rfl,by rw[T.o];exact I⟩
   | false=>
     have HQ:=AB hq;generalize hx:(ss.getD k default).id.toNat=x at *;have HX:=AB hx;clear hx;go_wp2;go_round;case rel=>
      refine⟨k+1,gd,by go_num,AB (λj hj=>?_)⟩;by_cases e:j=k
      .rw[e,HX.o];exact HQ.o
      exact hf.o j gd
     case measure=>simp[intOf];omega
  have HI:ga (ixA (λf:Sl=>(f.id.toNat:Int)==(id.toNat:Int)) ss = -1):=AB (Fs λj hj=>hf.o j gd);go_wp2;go_ret;exact⟨by rw[HI.o];rfl,by rw[T.o];exact I⟩
def I4 (p q:Sn):Bool:=((p.id.toNat:Int)==(q.id.toNat:Int))&&(((p.par.toNat:Int)==(q.par.toNat:Int))&&(((p.seq.toNat:Int)==(q.seq.toNat:Int))&&(((p.off.toNat:Int)==(q.off.toNat:Int))&&(((p.tim.toNat:Int)==(q.tim.toNat:Int))&&(((p.sch.toNat:Int)==(q.sch.toNat:Int))&&Gq p.ms q.ms)))))
theorem Za {ss}(h:check (ss.getD 0 ps0).1 (ss.getD 0 ps0).2=0):sOk ss 0=true:=by
 have h1:=(Ef h).1;unfold sOk FX;rw[AJ rfl,AF h];have e:DS (List.take ps0.2.length (ss.getD 0 ps0).2) ps0.2=true:=by simp[ps0,DS]
 rw[e,AF (show ps0.1.toNat<(ss.getD 0 ps0).1.toNat from h1),AF (show ps0.2.length<=(ss.getD 0 ps0).2.length from AU _)];rfl
theorem Rl {a:List Fd}{n j}(hj:j<n):(a.take n).getD j default=a.getD j default:=by
 simp[List.getD,hj]
theorem Zb {a b:List Fd}(hl:b.length<=a.length)(h:∀j,j<b.length->Eh (a.getD j default) (b.getD j default)=true):DS (a.take b.length) b=true:=by
 have e:(a.take b.length).length=b.length:=by rw[BN];omega
 unfold DS;rw[AF e,CV,e];exact Gb (λj hj=>by rw[Rl hj];exact h j hj)
theorem Zc {a b:List Fd}{j}(hl:b.length<=a.length)(hj:j<b.length)(h:Eh (a.getD j default) (b.getD j default)=false):DS (a.take b.length) b=false:=by
 have e:(a.take b.length).length=b.length:=by rw[BN];omega
 unfold DS;rw[e,FV hj (by rw[Rl hj];exact h),Bool.and_false]
theorem Zd {l q}(hq:q<l.length)(h:Aq (l.getD q default)=false):BJ l=false:=by
 unfold BJ;rw[FV hq (by rw[h];rfl),Bool.and_false]
theorem Ze {l q j}(hq:q<l.length)(hj:j<q)(h:((l.getD j default).toList==(l.getD q default).toList)=true):BJ l=false:=by
 unfold BJ;rw[FV hq,Bool.and_false];have:((l.take q).any λy=>(l.getD q default).toList==y.toList)=true:=by
  rw[List.any_eq_true];refine⟨l.getD j default,?_,?_⟩
  .have:l.getD j default=(l.take q).getD j default:=by simp[List.getD,hj]
   rw[this];exact B9 (by rw[BN];omega)
  rw[Ap]at h ⊢;exact h.symm
 rw[this];simp
theorem Zf {l}(h8:l.length<=8)(h:∀q,q<l.length->Aq (l.getD q default)=true/\∀j,j<q->((l.getD j default).toList==(l.getD q default).toList)=false):BJ l=true:=by
 unfold BJ;rw[AF h8,CV];refine Gb λq hq=>?_;rw[(h q hq).1,CV];have:((l.take q).any λy=>(l.getD q default).toList==y.toList)=false:=by
  rw[List.any_eq_false];intro y hy;obtain⟨j,hj,rfl⟩:=List.getElem_of_mem hy;rw[BN]at hj;have h1:=(h q hq).2 j gd;rw[AQ]at h1;simp only[List.getElem_take,Ap];intro e;apply h1;rw[e];simp[List.getD,show j<l.length by omega]
 rw[this];rfl
theorem Zg {a b l}(h:(a&&(b&&decide (l.length<=8)))=false):(a&&(BJ l&&b))=false:=by
 cases a with
 | false=>rfl
 | true=>
   cases b with
   | false=>simp
   | true=>
     cases hn:BJ l with
     | false=>rfl
     | true=>
       have:=Ks hn;simp[this]at h
def MI (f:Nl) (v:Value) (w:World):Prop:= ∃L,v = .slice L 1 1/\Rd w w.heap.size 7 L 1 1 (nlV f)
theorem Zh (w:World)(f):(Slot.has (MI f)).holds (.slice (gY w.heap.size 0) 1 1) (w.alloc (.cells (dO f.p f.A f.c) 43)):=by
 refine⟨_,rfl,?_⟩;have:=Rd.lit w 43 (dO f.p f.A f.c) (n:=1) (sz:=7) rfl gm;exact this.more gj
theorem Zj (a:Crc.W):∃L S:Nat,L<2/\S<4294967296/\bits BinOp.and .u32 (a.toNat:Int) 1=(L:Int)/\(a.toNat:Int)/2=(S:Int) /\
 (L=1->bits BinOp.xor .u32 (S:Int) 3988292384=((Crc.bit a).toNat:Int))/\(L=0->S=(Crc.bit a).toNat):=by
 have ha:=Fz a;have hs:a.toNat/2=(a >>> 1).toNat:=by rw[BitVec.toNat_ushiftRight,Nat.shiftRight_eq_div_pow]
 have hl:a.getLsbD 0=decide (a.toNat % 2=1):=by rw[BitVec.getLsbD,Nat.testBit_zero]
 refine⟨a.toNat % 2,a.toNat/2,gd,gd,?_,gd,λh1=>?_,λh0=>?_⟩
 .have h:=u32_and_nat a.toNat 1 ha gd;rw[nat_mask1]at h;exact h
 .unfold Crc.bit;rw[hl,hs];simp only[h1,decide_true,if_true];exact Hj (a >>> 1) Crc.poly
 unfold Crc.bit;rw[hl,hs];simp[h0]
def leN (C:Nat):Nat->List UInt8
 | 0=>[]
 | k+1=>leN C k++[UInt8.ofNat (C/256^k)]
theorem Rm (C):∀k,(leN C k).length=k
 | 0=>rfl
 | k+1=>by simp[leN,Rm C k]
theorem Zl (c:Crc.W):leN c.toNat 4=le4 c:=by simp[leN,le4]
theorem Ro {n}(h:n<128):(Var.put n).length=1/\[Value.int .u8 n]=AO (Var.put n):=by
 rw[Var.put,AJ h];refine⟨rfl,?_⟩;simp only[AO,Bv,Bw,DG,UInt8.toNat_ofNat',List.cons.injEq,and_true,Value.int.injEq,true_and];omega
theorem Rp (w B l v n)(h0:0<=n)(h1:n<=18446744073709551615)(hb:Buf B l v w)(hB:B<=w.heap.size)(hl:l.length<=900000):
 Calls prog 177 #[v,il n] w λe w'=>∃v',e = .returned v'/\Buf B (l++Var.put n.toNat) v' w'/\Bz B w w':=by
 have:=Dg n.toNat gd;go_enter func177,ntmps177;go_wp2_with fail
 refine(FN n w h0 h1).mono ?_;rintro e w1 ⟨v1,rfl,hown1,hb1⟩;obtain⟨A1,c1,rfl⟩:=BK hown1;have G:=hb.keep hb1;have O:=Ay hown1;have T:B<=w1.heap.size:=AS hB hb1.size;go_wp2_with (at_builtin;refine FZ rfl (.tmp 5) (.tmp 7) rfl rfl G A1 _ c1 _ rfl O gd T ?_;intro v2 w2 I V)
 go_ret;exact⟨v2,rfl,I,(Bz.of hb1).trans V⟩
theorem MJ (w B l v s)(hb:Buf B l v w)(hB:B<=w.heap.size)(hl:l.length+s.size<=900000):
 Calls prog 137 #[v,.string s] w λe w'=>∃v',e = .returned v'/\Buf B (l++tx s) v' w'/\Bz B w w':=by
 have I:IntKind.u64.wrap (s.size:Int)=(s.size:Int):=by rw[BU];omega
 have O:(s.size:Int) % 18446744073709551616=(s.size:Int):=gd;have:=Dg s.size gd;go_enter func137,ntmps137;go_wp2_with fail
 refine(Rp w B l v (s.size:Int) gd gd hb hB gd).mono ?_;rintro e w1 ⟨v1,rfl,hbuf1,hz1⟩;rw[BM]at hbuf1;have T:B<=w1.heap.size:=AS hB hz1.size;have:(l++Var.put s.size).length=l.length+(Var.put s.size).length:=AR;clear I O;go_wp2_with (at_builtin;refine OJ rfl (.tmp 9) (.tmp 10) rfl rfl hbuf1 s rfl gd T ?_;intro v3 w3 G V)
 go_ret;refine⟨v3,rfl,?_,hz1.trans V⟩;unfold tx;rw[<-Az];exact G
theorem Zn (l):∀u∈BQ l,u.oneCell'=true:=by
 intro u hu;obtain⟨s,_,hs⟩:=List.mem_flatMap.1 hu;exact FU s u hs
theorem Zo (l):∀u∈CX l,u.oneCell'=true:=by
 intro u hu;obtain⟨s,_,hs⟩:=List.mem_flatMap.1 hu;exact GZ s u hs
theorem Zp (w sA sc ss nA nc ns cur)(hT:TabR w w.heap.size sA sc ss nA nc ns)(id:UInt64):
 Calls prog 180 #[.agg (dP sA ss.length sc nA ns.length nc cur),il id.toNat] w λe w'=>e = .returned (io (ixA (λf=>(f.p.id.toNat:Int)==(id.toNat:Int)) ns))/\Below w.heap.size w w':=by
 have:ns.length<=9223372036854775807:=by have:=hT.nrow.le;have h2:=hT.nrow.cap;unfold maxLen at h2;omega
 go_enter func180,ntmps180;go_wp2_with fail
 have x1:=Dc w (dP sA ss.length sc nA ns.length nc cur) 39;have G:=(hT.below x1.below).more x1.below.size;have I:=x1.below;have:=x1.cell 1 _ rfl;generalize w.alloc _=w1 at *;clear x1 hT;generalize O:w.heap.size=bx at *;have T:=AB O;clear O;have V:=G.nrow;clear G;go_loop [5] (λiv=>∃k:Nat,k<=ns.length/\iv = io k/\ga (∀j,j<k->(((ns.getD j default).p.id.toNat:Int)==(id.toNat:Int))=false)) (λiv=>ns.length-(intOf iv).toNat);case atStart=>exact⟨0,AU _,rfl,AB (λj h=>gd)⟩
 case round=>
  obtain⟨k,hk,rfl,hf⟩:=hrel;by_cases Z:k<ns.length
  .obtain⟨b,off,rfl,hb,f0,_,_,_,_,_,_⟩:=V.nl Z;cases hq:((ns.getD k default).p.id.toNat:Int)==(id.toNat:Int)with
   | true=>
     have HI:ga (ixA (λf:Nl=>(f.p.id.toNat:Int)==(id.toNat:Int)) ns=(k:Int)):=AB (FA Z hq hf.o);generalize (ns.getD k default).p.id.toNat=x at *;go_wp2;go_ret;exact⟨by rw[HI.o];rfl,by rw[T.o];exact I⟩
   | false=>
     have HQ:=AB hq;generalize hx:(ns.getD k default).p.id.toNat=x at *;have HX:=AB hx;clear hx;go_wp2;go_round;case rel=>
      refine⟨k+1,gd,by go_num,AB (λj hj=>?_)⟩;by_cases e:j=k
      .rw[e,HX.o];exact HQ.o
      exact hf.o j gd
     case measure=>simp[intOf];omega
  have HI:ga (ixA (λf:Nl=>(f.p.id.toNat:Int)==(id.toNat:Int)) ns = -1):=AB (Fs λj hj=>hf.o j gd);go_wp2;go_ret;exact⟨by rw[HI.o];rfl,by rw[T.o];exact I⟩
theorem Zq (f):(Slot.has (MI f)).mono Ext:=λ_ _ _ he ⟨L,e,h⟩=>⟨L,e,(h.below he).more he.size⟩
theorem Zr (n w)(h0 : -9223372036854775808<=n)(h1:n<=9223372036854775807):
 Calls prog 218 #[io n] w (EA w (Var.put (zig n))):=by
 have hz:=AB (Hn h0 h1);by_cases hs:0<=n
 .have ht:decide ((0:Int)<=n)=true:=gt;have ha:IntKind.u64.wrap (2 * IntKind.u64.wrap n)=(zig n:Int):=by
   rw[IntWalk.u64_in n ⟨gd,gd⟩,IntWalk.u64_in _ ⟨gd,gd⟩];unfold zig;rw[AJ hs];omega
  clear h0 h1 hs;go_enter func218,ntmps218;go_wp2_with fail
  refine(FN _ _ gd (by have:=hz.o;omega)).mono ?_;rintro e w1 ⟨v1,rfl,hown1,hb1⟩;rw[BM]at hown1;clear ha;go_wp2_with fail
  go_ret;exact⟨v1,rfl,hown1,hb1⟩
 have ht:decide ((0:Int)<=n)=false:=gt;have ha:IntKind.u64.wrap (IntKind.u64.wrap (2 * IntKind.u64.wrap (wrap64 (-wrap64 (n+1))))+1)=(zig n:Int):=by
  rw[F7 (n+1) ⟨gd,gd⟩,F7 _ ⟨gd,gd⟩,IntWalk.u64_in (-(n+1)) ⟨gd,gd⟩,
   IntWalk.u64_in (2 * -(n+1)) ⟨gd,gd⟩,IntWalk.u64_in _ ⟨gd,gd⟩]
  unfold zig;rw[AE hs];omega
 clear h0 h1 hs;go_enter func218,ntmps218;go_wp2_with fail
 refine(FN _ _ gd (by have:=hz.o;omega)).mono ?_;rintro e w1 ⟨v1,rfl,hown1,hb1⟩;rw[BM]at hown1;clear ha;go_wp2_with fail
 go_ret;exact⟨v1,rfl,hown1,hb1⟩
theorem Rr {al kb sc n R}(hR:(if al=false then false else if kb=true then decide (sc=0)&&decide (n=1) else !decide (sc=0)&&(decide (1<=n)&&decide (n<=8)))=R)(h:n<1\/8<n):R=false:=by
 subst hR;have h1:=gF (n=1);have h2:(decide (1<=n)&&decide (n<=8))=false:=by
  rcases h with h|h
  .rw[AG (show ¬ 1<=n by omega)];rfl
  rw[AG (show ¬n<=8 by omega)];simp
 rw[h1,h2];cases al<;>cases kb<;>simp
theorem Et (w B l v)(n:Nat)(h1:n<18446744073709551616)(hb:Buf B l v w)(hB:B<=w.heap.size)(hl:l.length<=900000):
 Calls prog 177 #[v,il n] w λe w'=>∃v',e = .returned v'/\Buf B (l++Var.put n) v' w'/\Bz B w w':=by
 have:=Rp w B l v (n:Int) gd gd hb hB hl;rw[BM]at this;exact this
theorem Zu (w)(q n:Nat)(l)(h1:n<18446744073709551616)(hq:∀j u,(AO l)[j]? = some u->w.cell? (gX q j)=some u)(hz:q<w.heap.size)(hl:l.length<=900000):
 Calls prog 177 #[.slice (gY q 0) l.length l.length,il n] w λe w'=>∃v',e = .returned v'/\Buf w.heap.size (l++Var.put n) v' w'/\Below w.heap.size w w':=by
 have:=Var.put_le10 (n:=n) h1;have I:=put_pos n;go_enter func177,ntmps177;go_wp2_with fail
 refine(FN (n:Int) w gd gd).mono ?_;rintro e w1 ⟨v1,rfl,hown1,hb1⟩;rw[BM]at hown1;have O:∀j u,(AO l)[j]? = some u->w1.cell? (gX q j)=some u:=λj u hj=>(hb1.cell (p:=gX q j) hz).trans (hq j u hj);have G:=hb1.size;go_wp2_with (at_builtin;refine Kz (l:=l) rfl (.tmp 5) (.tmp 7) rfl rfl O rfl hown1 I gd ?_;intro v2 w2 o2 T)
 go_ret;exact⟨v2,rfl,B4 o2 G,AM hb1 G T⟩
theorem ML (w B l v x)(hx:CZ x=true)(hb:Buf B l v w)(hB:B<=w.heap.size)(hl:l.length<=800000):
 Calls prog 179 #[v,.agg #[ip x.kind.toNat,io x.n.toInt,.string x.s]] w λe w'=>∃v',e = .returned v'/\Buf B (l++CA x) v' w'/\Bz B w w':=by
 obtain⟨q1,q2,q3,q4,q5,q6⟩:=IQ hx;obtain⟨k,hk⟩:=ia x.kind.toNat;obtain⟨n,hn⟩:=ia x.n.toInt;obtain⟨s,hs⟩:=ia x.s;have Z : -9223372036854775808<=n:=by rw[<-hn];exact Int64.le_toInt x.n
 have aa:n<=9223372036854775807:=by have:=Int64.toInt_lt x.n;omega
 have ab:CA x=if k=1 then Var.put (zig n) else if k=2 then Var.put n.toNat else tx s:=by unfold CA;rw[hk,hn,hs]
 rw[hk]at q1 q2 q6;rw[hs]at q3;rw[hn]at q6;rw[ab,hk,hn,hs];clear ab hx hk hn hs q4 q5;obtain⟨x0,I⟩:=gZ w #[ip k,io n,.string s] 199;have O:=hb.keep I;have T:=AS hB I.size;rcases(show k=1\/k=2\/k=3 by omega)with rfl|rfl|rfl
 .have hz:=AB (Hn Z aa);have:=Var.put_le10 (n:=zig n) hz.o;rw[AJ rfl];obtain⟨u0,u1⟩:=x0.c2;go_enter func179,ntmps179;go_wp2_with fail
  generalize w.alloc _=w1 at *;refine(Zr n w1 Z aa).mono ?_;rintro e w2 ⟨v2,rfl,hown2,hb2⟩;obtain⟨A2,c2,rfl⟩:=BK hown2;have G:=O.keep hb2;have ad:=Ay hown2;have ae:B<=w2.heap.size:=AS T hb2.size;clear u0 u1 x0;go_wp2_with (at_builtin;refine FZ rfl (.tmp 8) (.tmp 11) rfl rfl G A2 _ c2 _ rfl ad gd ae ?_;intro v3 w3 V af)
  go_ret;exact⟨v3,rfl,V,(Bz.of I).trans ((Bz.of hb2).trans af)⟩
 .have q6:=q6 rfl;rw[AE gm,AJ rfl];obtain⟨m,rfl⟩:∃m:Nat,n=(m:Int):=⟨n.toNat,gd⟩;have:IntKind.u64.wrap (m:Int)=(m:Int):=by rw[BU];omega
  have:(m:Int) % 18446744073709551616=(m:Int):=gd;obtain⟨u0,u1⟩:=x0.c2;rw[BM];go_enter func179,ntmps179;go_wp2_with fail
  generalize w.alloc _=w1 at *;refine(Et w1 B l v m gd O T gd).mono ?_;rintro e w2 ⟨v2,rfl,G,hz2⟩;go_wp2_with fail
  go_ret;exact⟨v2,rfl,G,(Bz.of I).trans hz2⟩
 rw[AE gm,AE gm];obtain⟨u0,-,u2⟩:=x0.c3;go_enter func179,ntmps179;go_wp2_with fail
 generalize w.alloc _=w1 at *;refine(MJ w1 B l v s O T gd).mono ?_;rintro e w2 ⟨v2,rfl,G,hz2⟩;go_wp2_with fail
 go_ret;exact⟨v2,rfl,G,(Bz.of I).trans hz2⟩
theorem Zw (s:St)(w):(binOp .neq 201 (.agg #[io s.rows.toInt,io s.nulls.toInt,.bool s.som,.bool s.high,ip s.mn.kind.toNat,io s.mn.n.toInt,.string s.mn.s,ip s.mx.kind.toNat,io s.mx.n.toInt,.string s.mx.s])
 (.agg #[io s.rows.toInt,io s.nulls.toInt,.bool s.som,.bool s.high,ip s.mn.kind.toNat,io s.mn.n.toInt,.string s.mn.s,ip s.mx.kind.toNat,io s.mx.n.toInt,.string s.mx.s])).run prog w = .ok (.bool false) w:=by
 rw[run_neq_struct];go_simp
theorem Zx (w x A1 A2 c1 c2)(h1:Rd w w.heap.size 10 A1 x.stats.length c1 (BH x.stats))(h2:Rd w w.heap.size 10 A2 x.stats.length c2 (BH x.stats)):
 Calls prog 75 #[.agg (eNV x A1 c1),.agg (eNV x A2 c2)] w (FQ w (.bool true)):=by
 have:x.stats.length<=9223372036854775807:=by have:=h1.le;have h4:=h1.cap;unfold maxLen at h4;omega
 obtain⟨y1,O⟩:=gZ w (eNV x A1 c1) 97;have e1:(w.alloc (.cells (eNV x A1 c1) 97)).heap.size=w.heap.size+1:=gj;go_enter func75,ntmps75;go_upto_region 1 with fail
 generalize w.alloc _=wa at *;obtain⟨y2,T⟩:=gZ wa (eNV x A2 c2) 97;have y3:=y1.keep T y1.z;have I:=AM O O.size T;rw[e1]at y2;generalize wa.alloc _=wb at *;have af:=h1.below I;have ag:=h2.below I;obtain⟨d0,d1,d2,d3,d4,d5⟩:=y2.c6;obtain⟨f0,f1,f2,f3,f4,f5⟩:=y3.c6;have HY:=gR y3 y2;clear y1 y2 y3 O T e1 h1 h2;go_wp2_with fail
 go_loopw [5] (λiv wr=>∃k:Nat,iv = io k/\k<=x.stats.length/\Below wb.heap.size wb wr) (λiv _=>x.stats.length-(intOf iv).toNat);case atStart=>exact⟨0,rfl,AU _,AC _ _⟩
 case round=>
  clear d0 d1 d2 d3 d4 d5 f0 f1 f2 f3 f4 f5;obtain⟨k,rfl,hk,G⟩:=hrel;have V:w.heap.size<=wb.heap.size:=I.size;have g5:=(HY.o.1.keep G HY.o.1.z).cell 5 _ rfl;have d5:=(HY.o.2.keep G HY.o.2.z).cell 5 _ rfl;by_cases Z:k<x.stats.length
  .obtain⟨am,ao,aa,ai,ab⟩:=(af.below (G.mono V)).stA Z;obtain⟨ap,aq,ad,aj,ae⟩:=(ag.below (G.mono V)).stA Z;obtain⟨s,hs⟩:=ia (x.stats.getD k default);obtain⟨a0,a1,a2,a3,a4,a5,a6,a7,a8,a9⟩:=ab s hs;obtain⟨b0,b1,b2,b3,b4,b5,b6,b7,b8,b9⟩:=ae s hs;have:=Zw s;rw[aa]at g5;rw[ad]at d5;clear ab ae hs aa ad;(go_upto_region 6 with fail);go_quiet (fail)
   (go_wp2_with fail);go_roundw;case rel=>exact⟨k+1,by go_num,Z,CO G _⟩
   case measure=>simp[intOf];omega
  go_wp2_with fail
  go_ret;exact⟨rfl,I.trans (G.mono V)⟩
theorem Zz {out:List El}{j}(hj:j<out.length)(s):Ca (ET (out.take (j+1))) s=(Ca (ET (out.take j)) s||((out.getD j default).p.name.toList==s.toList)):=by
 rw[Cn,BF hj,DV _ _ hj];unfold ET;rw[Cv,Cv];exact LI _ _ _
theorem eB (W:World)(b u v x)(hb:b<W.heap.size)(c0:W.cell? (gX b 0)=some u)(c1:W.cell? (gX b 1)=some v)(fz:W.frozen? ⟨b,1,none⟩=false)(o):
 ((W.setCell (gX b 1) x).alloc o).cell? (gX b 0)=some u/\((W.setCell (gX b 1) x).alloc o).cell? (gX b 1)=some x/\((W.setCell (gX b 1) x).alloc o).frozen? ⟨b,1,none⟩=false:=by
 have hs:(W.setCell (gX b 1) x).heap.size=W.heap.size:=gj;have hB:=(AC (W.setCell (gX b 1) x).heap.size (W.setCell (gX b 1) x)).alloc (AD _) o;refine⟨(hB.cell (p:=gX b 0) (by rw[hs];exact hb)).trans ?_,(hB.cell (p:=gX b 1) (by rw[hs];exact hb)).trans ?_,(hB.frozen (p:=gX b 1) (by rw[hs];exact hb)).trans ?_⟩
 .go_simp
 .go_simp
 go_simp
