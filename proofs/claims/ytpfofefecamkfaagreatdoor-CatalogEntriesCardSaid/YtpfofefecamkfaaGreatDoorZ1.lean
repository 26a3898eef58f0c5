/- For CatalogEntries. -/
import Derived.Deep.RegionLaw
import Derived.Laws.IdiomRangeMap
import Derived.ProofKit
import Derived.OpenShut
import Derived.ShutString
import Derived.ChangeOld
import Derived.SizedLaws
import Derived.Deep.Slices
import Derived.Deep.Fields
import Derived.ChangeSame
import Derived.Lib.SmallJoins
import Derived.Deep.Strs
import Derived.Lib.AppendStr
import Init.Data.BitVec.Lemmas
import Derived.Lib.SlBytesConst
import Derived.ArgAppend
import Derived.Test.YtpfofefecamkfaaGreatDoorZ0
namespace Go.Proofs.YtpfofefecamkfaaGreatDoor
open Go.RowKit Proofs.Tryz
set_option maxRecDepth 100000
set_option maxHeartbeats 16000000
set_option linter.all false
def n15 (p f:Sn):Bool:=decide (p.id.toNat<f.id.toNat)&&(decide (f.id.toNat<=1073741824)&&(decide (f.par.toNat<f.id.toNat)&&decide (f.seq.toNat<=1073741824/\f.off.toNat<=1073741824/\f.tim.toNat<=1073741824)))
def n17 (p f:Sn):Bool:=decide (p.seq.toNat<=f.seq.toNat)&&(decide (p.off.toNat<=f.off.toNat)&&(decide (p.tim.toNat<=f.tim.toNat)&&decide (p.sch.toNat<=f.sch.toNat)))
theorem FY (p f ss):(decide (p.id.toNat<f.id.toNat)&&(decide (f.id.toNat<=1073741824)&&(decide (f.par.toNat<f.id.toNat)&&(decide (f.seq.toNat<=1073741824/\f.off.toNat<=1073741824/\f.tim.toNat<=1073741824) &&
 (decide (p.seq.toNat<=f.seq.toNat)&&(decide (p.off.toNat<=f.off.toNat)&&(decide (p.tim.toNat<=f.tim.toNat)&&(decide (p.sch.toNat<=f.sch.toNat)&&(BJ f.ms&&F0 ss f.sch)))))))))=(n15 p f&&(n17 p f&&(BJ f.ms&&F0 ss f.sch))):=by
 unfold n15 n17;simp only[Bool.and_assoc]
structure BoxT (w:World) (b:Nat) (cs:List Value) (t:TypeId):Prop where
 bx:dH w b cs
 ty:∃arr,w.heap[b]? = some (.cells arr t (0,0))
section
variable {w w':World} {b:Nat} {cs:List Value} {t:TypeId}
theorem Dv (w:World)(cs t):BoxT (w.alloc (.cells cs t)) w.heap.size cs.toList t:=⟨AP w cs t,cs,heap_alloc_new w _⟩
theorem BoxT.keep (h:BoxT w b cs t)(hb:Below w.heap.size w w'):BoxT w' b cs t:=by
 obtain⟨arr,ha⟩:=h.ty;exact⟨h.bx.keep hb h.bx.z,arr,(hb.block b h.bx.z).trans ha⟩
theorem BoxT.grown (h:BoxT w b cs t){base sz n e v xs}(ho:w.ownsRow base e sz v n xs)(hg:w.grownBy w' v.ownBlock)(hne:e≠t):BoxT w' b cs t:=by
 obtain⟨arr,ha⟩:=h.ty;have I:w'.heap[b]? = w.heap[b]?:=by
  refine hg.block b h.bx.z ?_;intro q;rcases ho.2 with ⟨rfl,_⟩|⟨g,cap,cur,rfl,_,G,_⟩
  .cases q
  simp only[Value.ownBlock]at q;injection q with q;subst q;rw[ha]at G;injection G with G;injection G with _ q2 _;exact hne q2.symm
 exact⟨⟨λj v hj=>(DE (w:=w) (a:=gX b j) I).trans (h.bx.cell j v hj),λj hj=>(EY (w:=w) (a:=gX b j) I).trans (h.bx.free j hj),AV h.bx.z hg.size⟩,arr,I.trans ha⟩
theorem BoxT.set (h:BoxT w b cs t){j}(x){u}(hj:cs[j]? = some u):BoxT (w.setCell (gX b j) x) b (cs.set j x) t:=by
 obtain⟨arr,ha⟩:=h.ty;exact⟨h.bx.set x hj,arr.setIfInBounds j x,by simp[World.setCell,Array.getElem?_modify,ha]⟩
theorem Ge {base sz n e v xs}(h:w.ownsRow base e sz v n xs)(hb:BoxT w b cs t)(G:e≠t)(j x):(w.setCell (gX b j) x).ownsRow base e sz v n xs:=by
 obtain⟨arr,ha⟩:=hb.ty;refine h.kept (row:=some b) ⟨rfl,rfl,rfl,by simp[World.setCell],λk _ G=>Below.heap_setCell _ _ _ _ (λq=>G (by rw[q]))⟩ ?_;rcases h.2 with ⟨rfl,_⟩|⟨g,cap,cur,rfl,_,hc,_⟩
 .exact .inl rfl
 refine .inr λq=>?_;simp only[Value.ownBlock]at q;injection q with q;subst q;rw[ha]at hc;injection hc with hc;injection hc with _ q2 _;exact G q2.symm
theorem dN.setT {B sc nc sA nA ss ns}(h:dN w B sA sc ss nA nc ns)(hb:BoxT w b cs 39)(j x):dN (w.setCell (gX b j) x) B sA sc ss nA nc ns:=
 ⟨Ge h.sown hb gm j x,λs hs=>Ge (h.sin s hs) hb gm j x,Ge h.nown hb gm j x,λs hs=>Ge (h.nin s hs) hb gm j x⟩
end
def Dw (ss:List Ps) (ns:List Sn) (p:Sn):Nat:=if 32<=ns.length then 4 else if B7 ss (ns++[p]) p.id.toNat=true then 0 else 1
def DT (w:World) (er:Nat) (cs:List Ps) (cn:List Sn) (cur:Nat) (e:Ending) (w':World):Prop:=
 ∃sA sc ss' nA nc ns',e = .returned (.tuple #[.agg (dP sA ss'.length sc nA ns'.length nc cur),io er])/\dN w' w.heap.size sA sc ss' nA nc ns'/\ss'.map dK=cs/\ns'.map dL=cn/\Below w.heap.size w w'
def Gf (w:World) (ss:List Ps) (ns:List Sn) (p:Sn):Ending->World->Prop:=
 if Dw ss ns p=0 then DT w 0 ss (ns++[p]) p.id.toNat else DT w (Dw ss ns p) [] [] 0
theorem Gg (w w' er)(h:Below w.heap.size w w'):DT w er [] [] 0 (.returned (.tuple #[.agg Aa,io er])) w':=
 ⟨none,0,[],none,0,[],rfl,dN.nil _ _,rfl,rfl,h⟩
theorem Nq {w6 w5:World}{B b2 b3 b6 sc nc sA nA ss ns p A6 c6 cs2 cs3 cs6}(O:dN w6 B sA sc ss nA nc ns)(h6:w6.ownsRow w5.heap.size 9 1 (.slice A6 p.ms.length c6) p.ms.length (AY p.ms))(hB:B<=w5.heap.size)(hsz:w5.heap.size<=w6.heap.size)(X6:BoxT w6 b6 cs6 39)(X2:dH w6 b2 cs2)(X3:dH w6 b3 cs3):
 dN (w6.alloc (.cells (dO p A6 c6) 43)) B sA sc ss nA nc ns/\(∀j u,(nlV ⟨p,A6,c6⟩)[j]? = some u->(w6.alloc (.cells (dO p A6 c6) 43)).cell? ((⟨w6.heap.size,0,none⟩:Addr).add j)=some u)/\B<=(w6.alloc (.cells (dO p A6 c6) 43)).heap.size /\
  (w6.alloc (.cells (dO p A6 c6) 43)).ownsRow B 9 1 (.slice A6 p.ms.length c6) p.ms.length (AY p.ms)/\BoxT (w6.alloc (.cells (dO p A6 c6) 43)) b6 cs6 39/\dH (w6.alloc (.cells (dO p A6 c6) 43)) b2 cs2/\dH (w6.alloc (.cells (dO p A6 c6) 43)) b3 cs3:=by
 obtain⟨y6,hb⟩:=gZ w6 (dO p A6 c6) 43;refine⟨O.keep hb,λj u hu=>?_,by have:=hb.size;omega,(B4 h6 hB).alloc _,X6.keep hb,X2.keep hb X2.z,X3.keep hb X3.z⟩;have:=y6.cell j u hu;rw[DF,BL];exact this
theorem Kp {w7 w8 B b2 b3 b6 sc nc g cap sA nA ss ns p A6 c6 cs2 cs3 cs6}(O:dN w7 B sA sc ss nA nc ns)(h6:w7.ownsRow B 9 1 (.slice A6 p.ms.length c6) p.ms.length (AY p.ms))(X6:BoxT w7 b6 cs6 39)(X2:dH w7 b2 cs2)(X3:dH w7 b3 cs3)(hown:w8.ownsRow B 43 7 (.slice (gY g 0) (ns.length+1) cap) (ns.length+1) (BQ ns++nlV ⟨p,A6,c6⟩))(hg:w7.grownBy w8 (Value.slice nA ns.length nc).ownBlock)(h2:b2<B)(h3:b3<B)(hsz:B<=w7.heap.size):
 dN w8 B sA sc ss (gY g 0) cap (ns++[⟨p,A6,c6⟩])/\BoxT w8 b6 cs6 39/\dH w8 b2 cs2/\dH w8 b3 cs3/\Below B w7 w8:=by
 have hb:Below B w7 w8:=Au (AC _ _) (AD _) O.nown hg hsz;obtain⟨g',G,q,O8⟩:=O.snocN (s:=⟨p,A6,c6⟩) h6 hown hg;injection q with q1 q2 q3;injection q1 with q1;injection q1 with q1;subst q1 q3;exact⟨O8,X6.grown O.nown hg gm,X2.keep hb h2,X3.keep hb h3,hb⟩
theorem Kq {w w7 w8 B b1 b2 b3 b6 sc cap g sA ss ns s v0 v1 v2 v3 cs2 cs3}(hap:dN w8 B sA sc ss (gY g 0) cap (ns++[s])/\BoxT w8 b6 #[v0,v1,v2].toList 39/\dH w8 b2 cs2/\dH w8 b3 cs3/\Below B w7 w8)(hB:Below b1 w w7)(h1:b1<=B)(h6:B<=b6)(h3:b3<B):
 ∃g' cap' nd',nd'.map dL=ns.map dL++[s.p]/\BoxT ((w8.setCell (gX b6 1) (.slice (gY g 0) (ns.length+1) cap)).setCell (gX b6 2) v3) b6 #[v0,.slice (gY g' 0) nd'.length cap',v3].toList 39/\dN ((w8.setCell (gX b6 1) (.slice (gY g 0) (ns.length+1) cap)).setCell (gX b6 2) v3) B sA sc ss (gY g' 0) cap' nd'/\dH ((w8.setCell (gX b6 1) (.slice (gY g 0) (ns.length+1) cap)).setCell (gX b6 2) v3) b3 cs3/\Below b1 w ((w8.setCell (gX b6 1) (.slice (gY g 0) (ns.length+1) cap)).setCell (gX b6 2) v3):=by
 obtain⟨O,X6,_,X3,hb⟩:=hap;have G:=X6.set (j:=1) (.slice (gY g 0) (ns.length+1) cap) rfl;have T:=G.set (j:=2) v3 rfl;have I:b6≠b3:=gd;refine⟨g,cap,ns++[s],by simp[dL],?_,(O.setT X6 _ _).setT G _ _,(X3.else (p:=gX b6 1) I _).else (p:=gX b6 2) I _,?_⟩
 .have e1:(ns++[s]).length=ns.length+1:=gj;rw[e1];exact T
 exact((hB.trans (hb.mono h1)).setCell (p:=gX b6 1) (show b1<=b6 by omega) _).setCell (p:=gX b6 2) (show b1<=b6 by omega) _
def FB (ns:List Sn) (id:UInt64):Bool:=ns.any λs=>(s.id.toNat:Int)==(id.toNat:Int)
def DU (ids:List UInt64) (x:UInt64):Bool:=ids.any λy=>(x.toNat:Int)==(y.toNat:Int)
def Df (ns:List Sn) (cur:UInt64) (ids:List UInt64):Nat:=if ids.all (FB ns)=true then (if DU ids cur=true then 1 else 0) else 2
theorem Nr (ns id):decide ((0:Int)<=sIx ns id)=FB (ns.map dL) id:=by
 unfold sIx FB;rw[IK,List.any_map];rfl
theorem Ns {ns cur ids k}(hk:k<ids.length)(h:FB ns (ids.getD k default)=false):Df ns cur ids=2:=by
 unfold Df;rw[AE];intro q;have:=Da.1 q (ids.getD k default) (by simp[List.getD,hk]);rw[h]at this;cases this
theorem Nt {ns}{ids:List UInt64}(h:∀j,j<ids.length->FB ns (ids.getD j default)=true):ids.all (FB ns)=true:=by
 refine Da.2 λx hx=>?_;obtain⟨j,hj,rfl⟩:=EZ.1 hx;have:=h j hj;simpa [List.getD,hj]using this
theorem Nu {α:Type}[Inhabited α](p : α->Bool)(l:List α):(∃k:Nat,ixA p l=(k:Int)/\k<l.length)\/ixA p l = -1:=by
 unfold ixA;split
 .rename_i ha;exact .inl ⟨_,rfl,List.findIdx_lt_length_of_exists (p:=p) (xs:=l) (by simpa using ha)⟩
 exact .inr rfl
theorem EE (g k w u):Oth g w (w.setCell (gX g k) u):=
 ⟨rfl,rfl,rfl,by simp[World.setCell],λj _ G=>by simp[World.setCell,Array.getElem?_modify,Ne.symm G]⟩
section
variable {w:World} {B sz g n c:Nat} {e:TypeId} {xs:List Value}
theorem Kr:∀(L:List Value) (w:World) (xs:List Value) (o:Nat),w.ownsRow B e sz (.slice (gY g 0) n c) n xs ->
 ∃G,(w.setCells g o L).ownsRow B e sz (.slice (gY g 0) n c) n G/\(∀m,m<=o->G.take m=xs.take m)/\Oth g w (w.setCells g o L)
 | [],w,xs,o,h=>⟨xs,h,λ_ _=>rfl,Oth.refl _ _⟩
 | v::L,w,xs,o,h=>by
   obtain⟨G,h',ht,ho⟩:=Kr L (w.setCell (gX g o) v) (xs.set o v) (o+1) (Du h o v);refine⟨G,h',λm hm=>?_,(EE g o w v).trans ho⟩;rw[ht m gd,List.take_set_of_le hm]
theorem Nv (h:w.ownsRow B e sz (.slice (gY g 0) n c) n xs){i}(hi:i<=n):w.ownsRow B e sz (.slice (gY g 0) i c) i (xs.take (i * sz)):=by
 obtain⟨cur,hc,hb,hs,hn,hm,ht,hl⟩:=Hf h;have G:i * sz<=n * sz:=Cc _ hi;refine⟨by rw[BN,hl];omega,.inr ⟨g,c,cur,rfl,hb,hc,gd,hm,hs,?_⟩⟩;rw[<-ht,List.take_take,Nat.min_eq_left G]
theorem Nw (h:w.ownsRow B e sz (.slice (gY g 0) n c) n xs){j}(hj:j<n * sz):(w.cell? (gX g j)).isSome=true:=by
 obtain⟨cur,hc,hb,hs,hn,hm,ht,hl⟩:=Hf h;have:j<cur.size:=by have:=Cc sz hn;omega
 simp[World.cell?,hc,this]
end
theorem UD (w g o n c)(hn:0<n)(hc:∀j,j<n * 7->(w.cell? (gX g (o+j))).isSome=true)(hf:∀j,j<n * 7->w.frozen? ⟨g,o+j,none⟩=false):
 ∃L:List Value,∀ty,(Builtin.clear_ #[37] ty #[.slice (gY g o) n c]).run prog w = .ok (.tuple #[]) (w.setCells g o L):=by
 have G:(Builtin.zeroCells (Value.agg Aj).cells n).toList.length=n * 7:=by
  simp[Builtin.zeroCells];rfl
 have I:∀v∈(Builtin.zeroCells (Value.agg Aj).cells n).toList,v.oneCell'=true:=by
  intro v hv;simp only[Builtin.zeroCells,Array.toList_map,CG]at hv;obtain⟨i,_,rfl⟩:=hv;have e:(Value.agg Aj).cells=Aj:=rfl;rw[e];have h7:i % 7<7:=Nat.mod_lt _ gm;show((Aj:Array Value)[i % 7]!).oneCell'=true;generalize i % 7=k at h7
  match k,h7 with
  | 0,_=>rfl
  | 1,_=>rfl
  | 2,_=>rfl
  | 3,_=>rfl
  | 4,_=>rfl
  | 5,_=>rfl
  | 6,_=>rfl
 have O:=run_storeCells_cells (P:=prog) g o (Builtin.zeroCells (Value.agg Aj).cells n).toList 0 w (by rw[G];simpa using hc) (by rw[G];simpa using hf) I;refine⟨(Builtin.zeroCells (Value.agg Aj).cells n).toList,λty=>?_⟩;simp only[Nat.add_zero]at O;obtain⟨m,rfl⟩:∃m,n=m+1:=⟨n-1,gd⟩;simp[Builtin.clear_,Fl underlying37,O]
def JM (w:World) (g fn:Nat) (lb:Array Value) (p:Nl->Bool):Prop:=
 ∀(W:World) (f:Nl),Oth g w W->Calls prog fn (#[.agg (dO f.p f.A f.c)]++lb) W λe w'=>e = .returned (.bool (p f))/\Below W.heap.size W w'
theorem Nx:∀(l:List Nl) (k:Nat),(BQ l).take (k * 7)=BQ (l.take k)
 | [],k=>by simp[BQ]
 | a::l,0=>by simp[BQ]
 | a::l,k+1=>by
   rw[EL,Hg,Hg,<-Nx l k,show(k+1) * 7=(nlV a).length+k * 7 by rw[JF];omega,List.take_length_add_append]
theorem Ny {α:Type}[Inhabited α]{p : α->Bool}{l:List α}{k:Nat}(h:ixA p l=(k:Int)):k<l.length/\p (l.getD k default)=true/\∀j,j<k->p (l.getD j default)=false:=by
 obtain⟨h1,_,h3⟩:=Ka h gd;rw[BM]at h1 h3;refine⟨h1,h3,λj hj=>?_⟩;unfold ixA at h;split at h
 .have hk:l.findIdx p=k:=gd;have:=List.not_of_lt_findIdx (p:=p) (xs:=l) (i:=j) gd;simpa [List.getD,show j<l.length by omega]using this
 omega
theorem Nz {α:Type}{p : α->Bool}{l:List α}(h:ixA p l = -1):l.filter (λf=>!p f)=l:=by
 unfold ixA at h;split at h
 .omega
 rename_i ha;rw[List.filter_eq_self];intro a hm;have:l.any p=false:=by simpa using ha
 rw[List.any_eq_false]at this;simp[this a hm]
theorem O2 {α:Type}[Inhabited α]{p : α->Bool}{l:List α}{k}(hk:k<l.length)(h1:p (l.getD k default)=true)(h2:∀j,j<k->p (l.getD j default)=false):(l.take (k+1)).filter (λf=>!p f)=l.take k:=by
 rw[Cn,List.filter_append];have e:l[k]?.toList=[l.getD k default]:=by simp[List.getD,hk]
 rw[e];have e2:(l.take k).filter (λf=>!p f)=l.take k:=by
  rw[List.filter_eq_self];intro a ha;obtain⟨j,hj,rfl⟩:=List.getElem_of_mem ha;rw[BN]at hj;have:=h2 j gd;rw[List.getElem_take];simpa [List.getD,show j<l.length by omega]using this
 rw[e2,List.filter_cons_of_neg (by rw[h1];decide),List.filter_nil,List.append_nil]
theorem OB {α:Type}[Inhabited α]{p : α->Bool}{l:List α}{j}(hj:j<l.length):(l.take (j+1)).filter (λf=>!p f)=(l.take j).filter (λf=>!p f)++(if p (l.getD j default)=true then [] else [l.getD j default]):=by
 rw[Cn,List.filter_append];have e:l[j]?.toList=[l.getD j default]:=by simp[List.getD,hj]
 rw[e];cases h:p (l.getD j default)with
 | true=>rw[List.filter_cons_of_neg (by rw[h];decide),List.filter_nil,AJ rfl]
 | false=>rw[List.filter_cons_of_pos (by rw[h];rfl),List.filter_nil,AE gm]
theorem OC {α:Type}[Inhabited α]{a b:List α}{j}(h:a.drop j=b.drop j):a.getD j default=b.getD j default:=by
 have:=congrArg (λl=>l[0]?) h;simp only[List.getElem?_drop,Nat.add_zero]at this;simp[List.getD,this]
theorem JN {α:Type}{a b:List α}{j}(h:a.drop j=b.drop j):a.drop (j+1)=b.drop (j+1):=by
 have:=congrArg (λl=>l.drop 1) h;simpa [List.drop_drop]using this
theorem OD {w:World}{B g c n j arr}(h:w.ownsRow B 43 7 (.slice (gY g 0) n c) n (BQ arr))(hl:arr.length=n)(hj:j<n):
 w.cell? (gX g (j * 7))=some (il ((arr.getD j default).p.id.toNat:Int))/\w.cell? (gX g (j * 7+1))=some (il ((arr.getD j default).p.par.toNat:Int))/\w.cell? (gX g (j * 7+2))=some (il ((arr.getD j default).p.seq.toNat:Int)) /\
 w.cell? (gX g (j * 7+3))=some (il ((arr.getD j default).p.off.toNat:Int))/\w.cell? (gX g (j * 7+4))=some (il ((arr.getD j default).p.tim.toNat:Int))/\w.cell? (gX g (j * 7+5))=some (im ((arr.getD j default).p.sch.toNat:Int)) /\
 w.cell? (gX g (j * 7+6))=some (.slice (arr.getD j default).A (arr.getD j default).p.ms.length (arr.getD j default).c):=by
 obtain⟨b,off,e,_,f0,f1,f2,f3,f4,f5,f6⟩:=(Ay h).nl (i:=j) gd;injection e with e;injection e with e1 e2;subst e1 e2;simp only[BL]at f0 f1 f2 f3 f4 f5 f6;exact⟨f0,f1,f2,f3,f4,f5,f6⟩
theorem BoxT.oth {w w' b g cs t}(h:BoxT w b cs t)(ho:Oth g w w')(hne:b≠g):BoxT w' b cs t:=by
 obtain⟨arr,ha⟩:=h.ty;exact⟨h.bx.oth ho hne,arr,(ho.block b h.bx.z hne).trans ha⟩
theorem UF (w g bf B iA n ic ids)(hc:w.cell? (gX bf 0)=some (.slice iA n ic))(hbf:bf<w.heap.size)(hne:bf≠g)(hr:Rd w B 1 iA n ic (CY ids))(hB:B<=g)(hBw:B<=w.heap.size)(hi:ids.length<=1000000):
 JM w g 90 #[iq bf 0] (λf=>DU ids f.p.id):=λW f ho=>by
 have:=(ho.cell (p:=gX bf 0) hbf hne).trans hc;have G:Rd W B 1 iA n ic (CY ids):=hr.keep λp hp=>ho.cell (AV hp hBw) gd;have I:bf<W.heap.size:=AV hbf ho.size;have:bf≠W.heap.size:=Cy I;have O:B<=W.heap.size:=AS hBw ho.size;show Calls prog 90 #[.agg (dO f.p f.A f.c),iq bf 0] W _;clear hc;go_enter func90,ntmps90;go_wp2_with fail
 refine(Kc _ B n ic iA ids (G.alloc O _) hi f.p.id).mono ?_;rintro e w' ⟨rfl,rfl⟩;go_wp2_with fail
 go_ret;exact⟨rfl,(AC _ _).alloc (AD _) _⟩
theorem UG (w fn lb p)(eg:∀args w,(callFunc fn args).run prog w = .ok (.enter fn args) w){g}(hp:JM w g fn lb p):
 Calls prog 89 #[ir,.func (.func fn) #[] lb] w λe w'=>e = .returned ir/\Below w.heap.size w w':=by
 go_enter func89,ntmps89;go_wp2_with fail
 refine(Kf w 0 0 none [] (Rd.nil _ _ _) gm fn lb p eg (λW f hb=>(hp W f (Oth.of hb)).mono λe w' h=>⟨h.1,AM hb hb.size h.2⟩)).mono ?_;rintro e w1 ⟨rfl,hb1⟩;have e1:ixA p ([]:List Nl) = -1:=rfl;rw[e1];go_wp2_with fail
 go_ret;exact⟨rfl,hb1⟩
theorem Ks {l}(h:BJ l=true):l.length<=8:=by
 unfold BJ at h;simp only[BX,BI]at h;exact h.1
theorem DV {α:Type}(l:List α)(d : α){i}(h:i<l.length):l.getD i d=l[i]:=by
 rw[List.getD,BF h];rfl
section
open Go.ChangeShapes Go.WideShapes Go.ChangeAt Go.RowKit Go.Deep Go.Joins
section
variable {H:Type} {enc:TypeId×Value->H} {w:World} {base:Nat} {spare:Nat->Bool} {held:Bool} {fuel:Nat}
theorem JO {P t fs cs x F}(ht:P.underlying t=some (.struct fs))(hone:oneCellFields P fs=true)(h:DataW.trod enc P w base spare held F t cs=some x)(hl:cs.length=fs.size):
 ∃n,∀(i:Nat) (f:Field) (c:Value),fs[i]? = some f->cs[i]? = some c->∃y,DataW.trod enc P w base spare held n f.type [c]=some y:=by
 obtain⟨ys,n,_,_,_,I,hf⟩:=DataW.trod_struct ht h;refine⟨n,λi f c hi hc=>?_⟩;obtain⟨ho,hk⟩:=hone_of hone i f hi;have h1:=hf i f hi;rw[ho,hk]at h1;have G:i<cs.length:=(FP.1 hc).1;have e:(cs.drop i).take 1=[c]:=by
  rw[List.drop_eq_getElem_cons G];have:=(FP.1 hc).2;simp[this]
 rw[e]at h1;have O:i<ys.length:=by rw[I];rw[<-hl];exact G
 exact⟨_,h1.trans (BF O)⟩
end
end
section
open Go.ChangeShapes Go.WideShapes Go.ChangeAt Go.RowKit Go.Deep Go.Joins
section
variable {H:Type} {enc:TypeId×Value->H} {w:World} {base:Nat} {spare:Nat->Bool} {held:Bool} {fuel:Nat}
theorem Fx {α:Type}[Inhabited α]{P}(encA : α->List Value)(k)(hk:∀a,(encA a).length=k){ts te}(hts:P.underlying ts=some (.slice te))(hcl:P.cellsOf te=k)(hk0:0<k)(Q : α->Prop)(hopen:∀(F:Nat) (cs:List Value) (x:DataW H×List MemPlace),cs.length=k->DataW.trod enc P w base (λ_=>true) held F te cs=some x->∃a,cs=encA a/\Q a){cs x}(h:DataW.trod enc P w base (λ_=>true) held fuel ts cs=some x):
 ∃(A:Option Addr) (n c:Nat) (l:List α),cs=[.slice A n c]/\Rd w w.heap.size k A n c (l.flatMap encA)/\∀a∈l,Q a:=by
 rcases open_slice hts h with ⟨h0,_⟩|⟨a,len,cap,m,n,D,Pl,ad,hb,hl,hm,ae,hx,hi⟩
 .exact⟨none,0,0,[],h0,Rd.nil _ _ _,gj⟩
 rw[AJ rfl]at ae;have I:∀i,i<len->∃f : α,(∀j,j<k->w.cell? (a.add (i * k+j))=(encA f)[j]?)/\Q f:=by
  intro i ak;obtain⟨am,hc,af⟩:=hi i gd;rw[hcl]at hc;obtain⟨_,O,ag⟩:=World.cells?_some hc;obtain⟨f,rfl,hq⟩:=hopen _ _ _ O af;refine⟨f,λj hj=>?_,hq⟩;have:=ag j hj
  rwa [Go.Deep.add_add]at this
 obtain⟨F,hF⟩:=choose_lt I;refine⟨some a,len,cap,(List.range len).map F,ad,?_,λf hf=>?_⟩
 .refine⟨by rw[IL encA k hk];simp,hl,hm,λhn=>?_⟩;obtain⟨b,off,T⟩:=a;have V:=(hF 0 hn).1 0 hk0;have ah:∃v,(encA (F 0))[0]? = some v:=⟨_,BF (by rw[hk];exact hk0)⟩;obtain⟨v0,Z⟩:=ah;have G:T=none:=by
   have:=World.cell?_spot (V.trans Z);simpa [Addr.add]using this
  subst G;have aa:b<w.heap.size:=by
   have:=World.block_lt_of_cell? w _ (V.trans Z);rw[DF]at this;exact this
  refine⟨b,off,rfl,aa,λj u hu=>?_⟩;have ai:j<len * k:=by
   have:=(FP.1 hu).1;rw[IL encA k hk]at this;simpa using this
  have hd:j/k<len:=Nat.div_lt_of_lt_mul (by rw[Nat.mul_comm];exact ai);have hm:j % k<k:=Nat.mod_lt _ hk0;have ab:j/k * k+j % k=j:=by rw[Nat.mul_comm];exact Nat.div_add_mod j k
  have e:=Kb encA k hk ((List.range len).map F) (j/k) (j % k) (by simpa using hd) hm;rw[ab]at e;have e2:=(hF (j/k) hd).1 (j % k) hm;rw[ab,DF]at e2;rw[e2,<-hu,e];simp
 obtain⟨i,aj,rfl⟩:=CG.1 hf;exact(hF i (by simpa using aj)).2
end
end
theorem xor_zero (a:Nat)(ha:a<18446744073709551616):bits .xor .u64 (a:Int) 0=(a:Int):=by
 have h:=u64_xor_nat a 0 ha gd;simpa using h
def Fy (f:Fd):List UInt8:=Var.put f.id.toNat++(Var.put f.name.size++(f.name.data.toList++(Var.put f.kind.toNat++[if f.need then 1 else 0])))
def By (l:List Fd):List UInt8:=l.flatMap Fy
def DK (id:UInt32) (l:List Fd):List UInt8:=Var.put id.toNat++(Var.put l.length++By l)
theorem UI (a b):By (a++b)=By a++By b:=by simp[By]
theorem Ku {id l}(h:check id l=0):∀f∈l,f.name.size<=16:=by
 intro f hf;obtain⟨k,hk,rfl⟩:=List.getElem_of_mem hf;have h0:=TP h k hk;have hg:l.getD k default=l[k]:=by simp[List.getD,hk]
 by_cases h1:l[k].id.toNat<=D8 l k
 .rw[J0 (f:=l[k]) hg h1]at h0;cases h0
 cases hn:named l[k].name with
 | false=>rw[IC (f:=l[k]) hg h1 (by rw[hn];rfl)]at h0;cases h0
 | true=>
   unfold named at hn;simp at hn;omega
theorem Hi {w w'}{b:Nat}{o}(hT:w.heap[b]? = some o)(hb:Below w.heap.size w w'):w'.heap[b]? = some o:=
 (hb.block b (EX.1 hT).1).trans hT
theorem FC {w w':World}{b base:Nat}{arr t e fr v n sz xs}(hT:w.heap[b]? = some (.cells arr t fr))(I:w.ownsRow base e sz v n xs)(hg:w.grownBy w' v.ownBlock)(hne:e≠t):
 w'.heap[b]? = some (.cells arr t fr):=by
 refine(hg.block b (EX.1 hT).1 ?_).trans hT;intro q;rcases I.2 with ⟨rfl,_⟩|⟨g,cap,cur,rfl,_,G,_⟩
 .cases q
 simp only[Value.ownBlock]at q;injection q with q;subst q;rw[hT]at G;injection G with G;injection G with _ q2 _;exact hne q2.symm
def Kv (B:Nat) (l:List UInt8) (v:Value) (w:World):Prop:=w.ownsRow B 5 1 v l.length (AO l)
theorem UJ (B l):(Slot.has (Kv B l)).mono Ext:=λ_ _ _ he h=>Ag h he
theorem UK {w w' B l e}(h:EA w l e w')(hB:B<=w.heap.size):∃v,e = .returned v/\Ext w w'/\(Slot.has (Kv B l)).holds v w':=by
 obtain⟨v,rfl,ho,hb⟩:=h;exact⟨v,rfl,hb,B4 ho hB⟩
theorem UL {w w' l e}(h:EA w l e w'):∃v,e = .returned v/\Ext w w'/\(Slot.has (F9 l)).holds v w':=by
 obtain⟨v,h1,h2,h3⟩:=h;exact TD h1 h2 h3
def Kw (l:List Fd):Prop:=l.length<=1000000/\∀j,j<l.length->(l.getD j default).name.size<=1000000
def PR (wx:World) (id:UInt32) (l:List Fd) (v iv:Value) (wr:World):Prop:=
 ∃(k:Nat) (cur:List UInt8) (vb:Value),v=vb/\iv = io k/\k<=l.length/\wr.ownsRow wx.heap.size 5 1 vb cur.length (AO cur)/\ga (cur=Var.put id.toNat++(Var.put l.length++By (l.take k)))/\cur.length<=20+k * 1000031/\Below wx.heap.size wx wr
theorem UM {l:List Fd}{k}(hk:k<l.length):By (l.take (k+1))=By (l.take k)++Fy (l.getD k default):=by
 rw[Cn,UI];simp[hk,By,List.getD]
theorem JP {id:UInt32}{l:List Fd}{k cur c1 c2 c3 c4 c5}(hk:k<l.length)(h:cur=Var.put id.toNat++(Var.put l.length++By (l.take k))){f}(hf:f=l.getD k default)(h1:c1=cur++Var.put f.id.toNat)(h2:c2=c1++Var.put f.name.size)(h3:c3=c2++f.name.data.toList)(h4:c4=c3++Var.put f.kind.toNat)(h5:c5=c4++[if f.need then 1 else 0]):
 c5=Var.put id.toNat++(Var.put l.length++By (l.take (k+1))):=by
 rw[UM hk,<-hf,h5,h4,h3,h2,h1,h];unfold Fy;simp only[Az]
namespace Crc
abbrev W:=BitVec 32
def poly:W:=0xedb88320#32
def bit (c:W):W:=(c >>> 1) ^^^ (if c.getLsbD 0 then poly else 0#32)
def bits:Nat->W->W
 | 0,c=>c
 | n+1,c=>bits n (bit c)
def byteS (c:W) (x:UInt8):W:=bits 8 (c ^^^ BitVec.ofNat 32 x.toNat)
def tab (n:Nat):W:=[0x00000000#32,0x1db71064#32,0x3b6e20c8#32,0x26d930ac#32,0x76dc4190#32,0x6b6b51f4#32,0x4db26158#32,0x5005713c#32,0xedb88320#32,0xf00f9344#32,0xd6d6a3e8#32,0xcb61b38c#32,0x9b64c2b0#32,0x86d3d2d4#32,0xa00ae278#32,0xbdbdf21c#32].getD n 0#32
def half (c:W):W:=(c >>> 4) ^^^ tab (c.toNat % 16)
def raw (c:W) (l:List UInt8):W:=l.foldl byteS c
def more (c:W) (l:List UInt8):W:= ~~~ (raw (~~~ c) l)
def crc (l:List UInt8):W:=more 0#32 l
theorem UO (a b):bit (a ^^^ b)=bit a ^^^ bit b:=by
 unfold bit;rw[BitVec.ushiftRight_xor_distrib,BitVec.getLsbD_xor];cases a.getLsbD 0<;>cases b.getLsbD 0<;>simp only[Bool.xor_false,Bool.xor_true,Bool.not_true,Bool.not_false,if_true,EK,if_false,BitVec.xor_zero]
 .ac_rfl
 .ac_rfl
 have e:a >>> 1 ^^^ poly ^^^ (b >>> 1 ^^^ poly)=(a >>> 1 ^^^ b >>> 1) ^^^ (poly ^^^ poly):=by ac_rfl
 rw[e,BitVec.xor_self,BitVec.xor_zero]
theorem UP (n):∀a b:W,bits n (a ^^^ b)=bits n a ^^^ bits n b:=by
 induction n with
 | zero=>intro a b;rfl
 | succ n ih=>intro a b;simp only[bits,UO,ih]
theorem bits_add (m n):∀c,bits (m+n) c=bits n (bits m c):=by
 induction m with
 | zero=>intro c;simp[bits]
 | succ m ih=>intro c;rw[Nat.succ_add];simp only[bits,ih]
theorem UQ (n):∀c:W,(∀i,i<n->c.getLsbD i=false)->bits n c=c >>> n:=by
 induction n with
 | zero=>intro c _;simp[bits]
 | succ n ih=>
   intro c h;have h0:=h 0 gd;have hb:bit c=c >>> 1:=by unfold bit;rw[h0];simp
   simp only[bits];rw[hb,ih]
   .rw[<-BitVec.shiftRight_add,Nat.add_comm]
   intro i hi;rw[BitVec.getLsbD_ushiftRight];exact h (1+i) gd
theorem split (c n):c=(c >>> n <<< n) ^^^ (c &&& (BitVec.ofNat 32 (2^n-1))):=by
 apply BitVec.eq_of_getLsbD_eq;intro i hi;simp only[BitVec.getLsbD_xor,BitVec.getLsbD_shiftLeft,BitVec.getLsbD_ushiftRight,BitVec.getLsbD_and,BitVec.getLsbD_ofNat,Nat.testBit_two_pow_sub_one];by_cases h:i<n
 .simp[h,hi]
 have e:n+(i-n)=i:=gd;simp[h,hi,e]
theorem OE (c):half c=bits 4 c:=by
 have hs:=split c 4;have h1:bits 4 (c >>> 4 <<< 4)=c >>> 4:=by
  rw[UQ 4 _ (by intro i hi;simp[BitVec.getLsbD_shiftLeft,hi])];apply BitVec.eq_of_getLsbD_eq;intro i hi;simp only[BitVec.getLsbD_shiftLeft,BitVec.getLsbD_ushiftRight];by_cases h4:4+i<32
  .have e:4+(4+i-4)=4+i:=gd;simp[h4]
  rw[BitVec.getLsbD_of_ge c (4+i) gd];simp[h4]
 have h2:∀k,k<16->bits 4 (BitVec.ofNat 32 k)=tab k:=gw;have h3:(c &&& BitVec.ofNat 32 (2^4-1))=BitVec.ofNat 32 (c.toNat % 16):=by
  apply BitVec.eq_of_toNat_eq;simp only[BitVec.toNat_and,BitVec.toNat_ofNat];have:(2^4-1) % 2^32=15:=gm;rw[this,show(15:Nat)=2^4-1 from rfl,Nat.and_two_pow_sub_one_eq_mod];omega
 conv=>rhs;rw[hs,UP,h1,h3,h2 _ (Nat.mod_lt _ gd)]
 rfl
theorem byteS_half (c x):half (half (c ^^^ BitVec.ofNat 32 x.toNat))=byteS c x:=by
 rw[OE,OE,<-bits_add];rfl
theorem raw_append (c a b):raw c (a++b)=raw (raw c a) b:=List.foldl_append ..
end Crc
def Dx (w:World):Prop:= ∀j,j<16->w.cell? ⟨0,j,none⟩=some (im ((Crc.tab j).toNat:Int))
theorem Dx.below {B w w'}(h:Dx w)(hb:Below B w w')(hB:0<B):Dx w':=λj hj=>(hb.cell (p:=gX 0 j) hB).trans (h j hj)
theorem Dx.pos {w}(h:Dx w):0<w.heap.size:=World.block_lt_of_cell? w _ (h 0 gd)
theorem Fz (c:Crc.W):c.toNat<4294967296:=c.isLt
theorem Hj (a b:Crc.W):bits BinOp.xor .u32 (a.toNat:Int) (b.toNat:Int)=((a ^^^ b).toNat:Int):=by
 rw[u32_xor_nat _ _ (Fz a) (Fz b),BitVec.toNat_xor]
theorem OG (a:Crc.W):bits BinOp.xor .u32 IntKind.u32.max (a.toNat:Int)=((~~~ a).toNat:Int):=by
 have h:=Hj (BitVec.allOnes 32) a;rw[BitVec.allOnes_xor]at h;exact h
theorem OH (a:Crc.W)(x:UInt8):bits BinOp.xor .u32 (a.toNat:Int) (x.toNat:Int)=((a ^^^ BitVec.ofNat 32 x.toNat).toNat:Int):=by
 have h:=Hj a (BitVec.ofNat 32 x.toNat);have:=x.toNat_lt;rw[BitVec.toNat_ofNat,Nat.mod_eq_of_lt gd]at h;exact h
theorem OI (a:Crc.W):∃Q T:Nat,Q<16/\T=(Crc.tab Q).toNat/\bits BinOp.and .u32 (a.toNat:Int) 15=(Q:Int)/\bits BinOp.xor .u32 ((a.toNat:Int)/16) (T:Int)=((Crc.half a).toNat:Int):=by
 refine⟨a.toNat % 16,_,Nat.mod_lt _ gd,rfl,?_,?_⟩
 .have h:=u32_and_nat a.toNat 15 (Fz a) gd;rw[nat_mask4]at h;exact h
 have e:(a.toNat:Int)/(16:Int)=((a >>> 4).toNat:Int):=by
  rw[BitVec.toNat_ushiftRight,Nat.shiftRight_eq_div_pow];omega
 rw[e,Hj];rfl
theorem UR (a:Crc.W)(x):∃C1 Q1 T1 C2 Q2 T2:Nat,Q1<16/\Q2<16/\T1=(Crc.tab Q1).toNat/\T2=(Crc.tab Q2).toNat/\C1<4294967296/\C2<4294967296 /\
 bits BinOp.xor .u32 (a.toNat:Int) (x.toNat:Int)=(C1:Int)/\bits BinOp.and .u32 (C1:Int) 15=(Q1:Int)/\bits BinOp.xor .u32 ((C1:Int)/16) (T1:Int)=(C2:Int) /\
 bits BinOp.and .u32 (C2:Int) 15=(Q2:Int)/\bits BinOp.xor .u32 ((C2:Int)/16) (T2:Int)=((Crc.byteS a x).toNat:Int):=by
 obtain⟨Q1,T1,h1,h2,h3,h4⟩:=OI (a ^^^ BitVec.ofNat 32 x.toNat);obtain⟨Q2,T2,g1,g2,g3,g4⟩:=OI (Crc.half (a ^^^ BitVec.ofNat 32 x.toNat));rw[Crc.byteS_half]at g4;exact⟨_,Q1,T1,_,Q2,T2,h1,g1,h2,g2,Fz _,Fz _,OH a x,h3,h4,g3,g4⟩
theorem US (w)(c0:Crc.W)(B n c A l)(hr:Rd w B 1 A n c (AO l))(ht:Dx w):
 Calls prog 202 #[im c0.toNat,.slice A n c] w λe w'=>e = .returned (im ((Crc.more c0 l).toNat:Int))/\w=w':=by
 obtain rfl:n=l.length:=by have:=hr.len;rw[Bt]at this;omega
 have af:l.length<=9223372036854775807:=by have h1:=hr.le;have h2:=hr.cap;unfold maxLen at h2;omega
 have HT:=AB ht;have V:=OG c0;obtain⟨N0,I⟩:∃N:Nat,N=(~~~ c0).toNat:=⟨_,rfl⟩;rw[<-I]at V;have ab:=AB I;clear ht I;go_enter func202,ntmps202;go_wp2;clear V;go_loop [0,11] (λcv iv=>∃(k C:Nat),k<=l.length/\iv = io k/\cv = im C/\ga (C=(Crc.raw (~~~ c0) (l.take k)).toNat)) (λ_ iv=>l.length-(intOf iv).toNat);case atStart=>exact⟨0,N0,AU _,rfl,rfl,AB ab.o⟩
 case round=>
  obtain⟨k,C,hk,rfl,rfl,hC⟩:=hrel;by_cases Z:k<l.length
  .obtain⟨b,off,rfl,_,hc⟩:=hr.cellAt (k:=k) (by rw[Bt];exact Z);obtain⟨x,hx⟩:∃x:UInt8,x=l[k]:=⟨_,rfl⟩;have ag:w.cell? (gX b (off+k))=some (ip x.toNat):=by rw[hc,hx];simp[AO,DG]
   have aa:Crc.raw (~~~ c0) (l.take (k+1))=Crc.byteS (Crc.raw (~~~ c0) (l.take k)) x:=by
    rw[List.take_succ_eq_append_getElem Z,Crc.raw_append,<-hx];rfl
   obtain⟨C1,Q1,T1,C2,Q2,T2,q1,q2,d1,d2,l1,l2,e1,e2,e3,e4,e5⟩:=UR (Crc.raw (~~~ c0) (l.take k)) x;have t1:=HT.o Q1 q1;have t2:=HT.o Q2 q2;rw[<-d1]at t1;rw[<-d2]at t2;rw[<-hC.o]at e1;rw[<-aa]at e5;obtain⟨C3,O⟩:=ib ((Crc.raw (~~~ c0) (l.take (k+1))).toNat);rw[<-O]at e5;have ad:=AB O;have ae:=x.toNat_lt;clear hc hx aa d1 d2 O;go_wp2;go_round;case rel=>exact⟨k+1,C3,gd,by go_num,rfl,ad⟩
   case measure=>simp[intOf];omega
  obtain rfl:k=l.length:=gd;have G:=OG (Crc.raw (~~~ c0) l);have T:=hC.o;rw[E8]at T;rw[<-T]at G;have HF:=AB G;clear G T;go_wp2;go_ret;refine⟨?_,rfl⟩;show Ending.returned (im (bits BinOp.xor .u32 IntKind.u32.max (C:Int)))=_;rw[HF.o];rfl
theorem UT (w B n c A l)(hr:Rd w B 1 A n c (AO l))(ht:Dx w):
 Calls prog 164 #[.slice A n c] w λe w'=>e = .returned (im ((Crc.crc l).toNat:Int))/\w=w':=by
 have HT:=AB ht;clear ht;go_enter func164,ntmps164;go_wp2_with fail
 refine(US w 0#32 B n c A l hr HT.o).mono ?_;rintro e w1 ⟨rfl,rfl⟩;go_wp2_with fail
 go_ret;exact⟨rfl,rfl⟩
theorem JQ (w B n c A xs)(hr:Rd w B 1 A n c xs)(h1:∀u∈xs,u.oneCell'=true)(hb:n * 1<=140737488355328)(hB:B<=w.heap.size):
 Calls prog 107 #[.slice A n c] w (GT w 5 1 n xs):=by
 have:=λW=>Lib.run_eql_slice_nil (P:=prog) W 55 5 A n c 0 0 underlying55;cases A with
 | none=>
   obtain⟨rfl,rfl⟩:=hr.none_;go_enter func107,ntmps107;(go_wp2_with fail);go_ret;exact⟨_,rfl,Av _ _ _ _,AC _ _⟩
 | some ad=>
   have I:=Ew w (base:=w.heap.size) 5 1 0 #[] (AD _) gm rfl;have O:=hr.alloc hB (.cells #[] 5);go_enter func107,ntmps107;go_wp2_with (at_builtin;refine Aw _ As rfl _ _ rfl w.heap.size _ 0 [] rfl I B (some ad) _ c _ rfl O h1 gd gj ?_;intro v2 w2 G T _;simp only[BL,CN]at G;have V:=Au (hI w (.cells #[] 5)) (AD _) I T gj)
   go_ret;exact⟨v2,rfl,G,V⟩
def le4 (c:Crc.W):List UInt8:=[UInt8.ofNat c.toNat,UInt8.ofNat (c.toNat/256),UInt8.ofNat (c.toNat/65536),UInt8.ofNat (c.toNat/16777216)]
def DL (l:List UInt8):List UInt8:=l++le4 (Crc.crc l)
theorem Kx (w n c A l)(hr:Rd w w.heap.size 1 A n c (AO l))(ht:Dx w)(hl:l.length<=1000000):
 Calls prog 104 #[.slice A n c] w (EA w (DL l)):=by
 obtain rfl:n=l.length:=by have:=hr.len;rw[Bt]at this;omega
 have HT:=AB ht;clear ht;go_enter func104,ntmps104;go_wp2_with fail
 refine(UT w _ _ c A l hr HT.o).mono ?_;rintro e w1 ⟨rfl,rfl⟩;go_wp2_with fail
 refine(JQ w _ _ c A _ hr (Bb _) gd (AD _)).mono ?_;rintro e w2 ⟨v2,rfl,hown2,hb2⟩;have hq:=Fz (Crc.crc l);have T:=hown2.1;go_wp2_with (at_builtin;refine Aw _ As rfl _ _ rfl w.heap.size v2 _ _ rfl (hown2.alloc _) (w2.heap.size+1) _ 4 4 _ rfl (Rd.lit w2 5 _ rfl gm) ?h1 ?h2 ?h3 ?_)
 case h1=>exact⟨rfl,rfl,rfl,rfl⟩
 case h2=>omega
 case h3=>have:=hb2.size;simp;omega
 intro v3 w3 G I _;have O:=Au (hb2.alloc hb2.size _) (AD _) (hown2.alloc _) I (by have:=hb2.size;simp;omega);have e4:AO l++#[Value.int .u8 (((Crc.crc l).toNat:Int) % 256),ip (((Crc.crc l).toNat:Int)/256 % 256),ip (((Crc.crc l).toNat:Int)/65536 % 256),ip (((Crc.crc l).toNat:Int)/16777216)].toList=AO (DL l):=by
  unfold DL le4;rw[CH];congr 1;simp only[AO,Bv,Bw,DG,UInt8.toNat_ofNat',List.cons.injEq,and_true,Value.int.injEq,true_and];refine⟨gd,gd,gd,gd⟩
 rw[e4]at G;clear I hown2 e4;go_wp2;go_ret;exact⟨v3,rfl,by simpa [DL,le4]using G,O⟩
structure Bz (B:Nat) (w w':World):Prop where
 os:w'.os=w.os
 tape:w'.tape=w.tape
 output:w'.output=w.output
 size:w.heap.size<=w'.heap.size
 blk:∀k,k<w.heap.size->k<B->w'.heap[k]? = w.heap[k]?
 oth:∀(k:Nat) (arr:Array Value) (t:TypeId) (f:Nat×Nat),w.heap[k]? = some (Obj.cells arr t f)->t≠5->w'.heap[k]? = some (Obj.cells arr t f)
section
variable {B:Nat} {u w w':World}
theorem Bz.refl (B w):Bz B w w:=⟨rfl,rfl,rfl,AD _,λ_ _ _=>rfl,λ_ _ _ _ h _=>h⟩
theorem Bz.trans (h:Bz B u w)(k:Bz B w w'):Bz B u w':=
 ⟨k.os.trans h.os,k.tape.trans h.tape,k.output.trans h.output,AS h.size k.size,λi hi hb=>(k.blk i (AV hi h.size) hb).trans (h.blk i hi hb),λi arr t f ha G=>k.oth i arr t f (h.oth i arr t f ha G) G⟩
theorem Bz.of (h:Below w.heap.size w w'):Bz B w w':=
 ⟨h.os,h.tape,h.output,h.size,λk hk _=>h.block k hk,λk _ _ _ ha _=>(h.block k (EX.1 ha).1).trans ha⟩
theorem Bz.below (h:Bz B w w')(hB:B<=w.heap.size):Below B w w':=⟨h.os,h.tape,h.output,h.size,λk hk=>h.blk k (AV hk hB) hk⟩
theorem Bz.grown {n v xs}(ho:w.ownsRow B 5 1 v n xs)(hg:w.grownBy w' v.ownBlock):Bz B w w':=by
 refine⟨hg.os,hg.tape,hg.output,hg.size,λk hk hb=>?_,λk arr t f ha I=>?_⟩
 .refine hg.block k hk λq=>?_;have:=(ho.lt k q.symm).1;omega
 refine(hg.block k (EX.1 ha).1 λq=>?_).trans ha;rcases ho.2 with ⟨rfl,_⟩|⟨g,cap,cur,rfl,_,G,_⟩
 .cases q
 simp only[Value.ownBlock]at q;injection q with q;subst q;rw[ha]at G;injection G with G;injection G with _ q2 _;exact I q2
theorem BoxT.bz {b cs t}(h:BoxT w b cs t)(hb:Bz B w w')(hne:t≠5):BoxT w' b cs t:=by
 obtain⟨arr,ha⟩:=h.ty;have G:w'.heap[b]? = w.heap[b]?:=(hb.oth b arr t (0,0) ha hne).trans ha.symm;exact⟨⟨λj v hj=>(DE (w:=w) (a:=gX b j) G).trans (h.bx.cell j v hj),λj hj=>(EY (w:=w) (a:=gX b j) G).trans (h.bx.free j hj),AV h.bx.z hb.size⟩,arr,G.trans ha⟩
end
def Buf (B:Nat) (l:List UInt8) (v:Value) (w:World):Prop:=w.ownsRow B 5 1 v l.length (AO l)
section
variable {ops:Array Oper} {rest:List Oper} {o:Oper} {a:Act} {Q:Exit->Act->World->Prop} {w:World} {B:Nat} {l news:List UInt8} {v:Value}
theorem FZ (hgd:o.guard=none)(s x)(ho:o.op = .call { callee:=.builtin .append,args:=#[s,x],argTypes:=#[55,55] })(hs:a.eval s=v)(hb:Buf B l v w)(A m c B2)(hx:a.eval x = .slice A m c)(hr:Rd w B2 1 A m c (AO news))(hlen:l.length+news.length<=1000000)(hB:B<=w.heap.size)(h:∀v' w',Buf B (l++news) v' w'->Bz B w w'->wpList prog ops Q rest (a.put o.dst v') w'):wpList prog ops Q (o::rest) a w:=by
 obtain rfl:m=news.length:=by have:=hr.len;rw[Bt]at this;omega
 refine Aw _ As hgd s x ho B v _ _ hs hb B2 A _ c _ hx hr (Bb _) gd hB λv' w' h1 h2 _=>h v' w' ?_ (Bz.grown hb h2);unfold Buf;rw[AR,CH];exact h1
theorem OJ (hgd:o.guard=none)(s x)(ho:o.op = .call { callee:=.builtin .append,args:=#[s,x],argTypes:=#[55,9] })(hs:a.eval s=v)(hb:Buf B l v w)(st)(hx:a.eval x = .string st)(hlen:l.length+st.size<=1000000)(hB:B<=w.heap.size)(h:∀v' w',Buf B (l++st.data.toList) v' w'->Bz B w w'->wpList prog ops Q rest (a.put o.dst v') w'):wpList prog ops Q (o::rest) a w:=by
 obtain⟨ti,T,G,I,O⟩:=DZ As.inf;refine Go.Lib.wpList_append_own_string _ hgd s x 55 9 ho B 5 ti underlying55 underlying9 T G I O v _ _ hs hb st hx gn gd hB λv' w' h1 h2 _=>h v' w' ?_ (Bz.grown hb h2);unfold Buf;rw[AR,CH];exact h1
end
theorem Buf.keep {w w' B l v}(h:Buf B l v w)(hb:Below w.heap.size w w'):Buf B l v w':=Ag h hb
theorem BK {w:World}{base sz n e v xs}(h:w.ownsRow base e sz v n xs):∃A c,v = .slice A n c:=by
 obtain⟨A,c,e,_⟩:=Rd.of_own h;exact⟨A,c,e⟩
theorem put_pos (n):0<(Var.put n).length:=by
 rw[Var.put];split<;>simp
theorem Kz {ops rest o a Q w B2 b0 l news v2}(hgd:o.guard=none)(s x)(ho:o.op = .call { callee:=.builtin .append,args:=#[s,x],argTypes:=#[55,55] })(hs:a.eval s = .slice (gY b0 0) l.length l.length)(hold:∀j u,(AO l)[j]? = some u->w.cell? (gX b0 j)=some u)(hx:a.eval x=v2)(hown:w.ownsRow B2 5 1 v2 news.length (AO news))(hpos:0<news.length)(hlen:l.length+news.length<=1000000)(h:∀v' w',Buf w.heap.size (l++news) v' w'->Below w.heap.size w w'->wpList prog ops Q rest (a.put o.dst v') w'):wpList prog ops Q (o::rest) a w:=by
 obtain⟨ti,T,G,I,O⟩:=DZ As.inf;obtain⟨g,c,rfl,_,_⟩:=hown.form hpos;refine wpList_append_grows _ hgd s x 55 ho 5 ti _ 1 1 underlying55 T G I O As.zs gm (gY b0 0) l.length l.length (AO l) hs gj (by rw[Bt,Nat.mul_one]) (λb hb j u hj=>?_) ⟨g,0,none⟩ news.length c (AO news) hx (by rw[Bt,Nat.mul_one]) (λj u hj=>?_) (Bb _) gd gn gd (λv' w' h1 h2=>h v' w' ?_ ⟨h2.os,h2.tape,h2.output,h2.size,λk hk=>h2.block k hk gj⟩)
 .injection hb with hb;subst hb;rw[DF,BL];exact hold j u hj
 .rw[DF,BL];have V:j<(AO news).length:=(FP.1 hj).1;rw[hown.cellAt j (by rw[Bt]at V;omega)];exact hj
 unfold Buf;rw[AR,CH];exact h1
def tx (s:ByteArray):List UInt8:=Var.put s.size++s.data.toList
def txs (l:List ByteArray):List UInt8:=l.flatMap tx
def BD (p:Sn):List Nat:=[p.id.toNat,p.par.toNat,p.seq.toNat,p.off.toNat,p.tim.toNat,p.sch.toNat,p.ms.length]
def Dy (l:List Nat):List UInt8:=l.flatMap Var.put
def snB (p:Sn):List UInt8:=Dy (BD p)++txs p.ms
def DB (l:List Sn):List UInt8:=l.flatMap snB
def Ci (l:List Ps):List UInt8:=l.flatMap λs=>DK s.1 s.2
def tf1:List UInt8:=[84,70,49]
def wr0 (ss:List Ps):List UInt8:=tf1++Var.put ss.length
def wr1 (ss:List Ps) (ns:List Sn):List UInt8:=wr0 ss++Ci ss++Var.put ns.length
def wrT (ss:List Ps) (ns:List Sn):List UInt8:=wr1 ss ns++DB ns
section
variable {α:Type} {f : α->List UInt8} {l:List α} {k:Nat}
theorem FD [Inhabited α](hk:k<l.length):(l.take (k+1)).flatMap f=(l.take k).flatMap f++f (l.getD k default):=by
 rw[Cn,List.flatMap_append];simp[hk,List.getD]
theorem EP {m}(h:∀a∈l,(f a).length<=m):(l.flatMap f).length<=l.length * m:=by
 induction l with
 | nil=>simp
 | cons a l ih=>
   rw[List.flatMap_cons,AR,Bg,Nat.succ_mul];have:=h a gj;have:=ih (λb hb=>h b (by simp[hb]));omega
end
theorem Dg (n)(h:n<18446744073709551616):(Var.put n).length<=10:=Var.put_le10 h
theorem L0 {id l}(h:check id l=0):(DK id l).length<=400:=by
 have h8:=(Ef h).2.2;have hn:=Ku h;have:=id.toNat_lt;have:=Dg id.toNat gd;have:=Dg l.length gd;have:(By l).length<=l.length * 47:=EP λf hf=>by
  have:=hn f hf;have:=Dg f.id.toNat (by have:=f.id.toNat_lt;omega);have:=Dg f.name.size gd;have:=Dg f.kind.toNat (by have:=f.kind.toNat_lt;omega);have:f.name.data.toList.length=f.name.size:=by rw[Array.length_toList];rfl
  unfold Fy;simp only[AR,Bg,List.length_nil];omega
 unfold DK;simp only[AR];have:l.length * 47<=8 * 47:=Cc _ h8;omega
theorem L1 {s}(h:Aq s=true):s.size<=24:=by
 unfold Aq at h;simp only[BX,BI]at h;exact h.1.2
theorem L3 {s}(h:s.size<=24):(tx s).length<=34:=by
 have:=Dg s.size gd;have:s.data.toList.length=s.size:=by rw[Array.length_toList];rfl
 unfold tx;rw[AR];omega
theorem JR {l}(h:BJ l=true):l.length<=8/\∀s∈l,s.size<=24:=by
 refine⟨Ks h,λs hs=>?_⟩;obtain⟨j,hj,rfl⟩:=EZ.1 hs;unfold BJ at h;simp only[BX,BI,Da,List.mem_range]at h;have:=(h.2 j hj).1;rw[DV _ _ hj]at this;exact L1 this
theorem UU {l}(h:BJ l=true):(txs l).length<=272:=by
 obtain⟨h8,hs⟩:=JR h;have:(txs l).length<=l.length * 34:=EP λs hm=>L3 (hs s hm);have:l.length * 34<=8 * 34:=Cc _ h8;omega
theorem L4 {p}(h:p.ms.length<=8):∀n∈BD p,n<18446744073709551616:=by
 have:=p.id.toNat_lt;have:=p.par.toNat_lt;have:=p.seq.toNat_lt;have:=p.off.toNat_lt;have:=p.tim.toNat_lt;have:=p.sch.toNat_lt;intro n hn;simp only[BD,List.mem_cons,List.mem_nil_iff,or_false]at hn;rcases hn with rfl|rfl|rfl|rfl|rfl|rfl|rfl<;>omega
theorem IM {l}(h:∀n∈l,n<18446744073709551616):(Dy l).length<=l.length * 10:=EP λn hn=>Dg n (h n hn)
theorem UV {p}(h:BJ p.ms=true):(snB p).length<=342:=by
 have:=IM (L4 (Ks h));have:=UU h;have:(BD p).length=7:=rfl;unfold snB;rw[AR];omega
theorem Gh {ss ns cur}(h:B7 ss ns cur=true):(1<=ss.length/\ss.length<=16/\ns.length<=32)/\(∀s∈ss,check s.1 s.2=0)/\∀s∈ns,BJ s.ms=true:=by
 unfold B7 at h;simp only[BX,BI,Da,List.mem_range]at h;obtain⟨hl,hs,hn,hc⟩:=h;refine⟨hl,λs hm=>?_,λs hm=>?_⟩
 .obtain⟨j,hj,rfl⟩:=EZ.1 hm;have:=hs j hj;unfold sOk at this;simp only[BX,BI]at this;have h1:=this.1;rw[DV _ _ hj]at h1;exact h1
 obtain⟨j,hj,rfl⟩:=EZ.1 hm;have:=hn j hj;unfold nOk at this;simp only[BX,BI]at this;have h1:=this.2.2.2.2.2.2.2.2.1;rw[DV _ _ hj]at h1;exact h1
theorem JS {ss}(h:∀s∈ss,check s.1 s.2=0):(Ci ss).length<=ss.length * 400:=EP λs hs=>L0 (h s hs)
theorem OK {ns}(h:∀s∈ns,BJ s.ms=true):(DB ns).length<=ns.length * 342:=EP λs hs=>UV (h s hs)
theorem OL {id l}(h:check id l=0):Kw l:=by
 refine⟨by have:=(Ef h).2.2;omega,λj hj=>?_⟩;have:=Ku h (l.getD j default) (B9 hj);omega
def wrS (ss:List Ps) (ns:List Sn):List UInt8:=DL (wrT ss ns)
def JT (w:World) (ss:List Ps) (ns:List Sn) (cur:Nat) (e:Ending) (w':World):Prop:=
 (B7 ss ns cur=true/\∃v,e = .returned (.tuple #[v,io 0])/\w'.ownsRow w.heap.size 5 1 v (wrS ss ns).length (AO (wrS ss ns))/\Below w.heap.size w w') \/
 (B7 ss ns cur=false/\e = .returned (.tuple #[ir,io 1])/\Below w.heap.size w w')
def BT (l:List UInt8):Option (List UInt8):=if 4<=l.length/\DL (l.take (l.length-4))=l then some (l.take (l.length-4)) else none
def OM (w:World) (l:List UInt8) (e:Ending) (w':World):Prop:=
 (∃t v,BT l=some t/\e = .returned (.tuple #[v,.bool true])/\w'.ownsRow w.heap.size 5 1 v t.length (AO t)/\Below w.heap.size w w') \/
 (BT l=none/\e = .returned (.tuple #[ir,.bool false])/\Below w.heap.size w w')
theorem OR {w w' l e}(h:OM w l e w'):
 Below w.heap.size w w'/\∃A c,e = .returned (.tuple #[.slice A ((BT l).getD []).length c,.bool (BT l).isSome])/\Rd w' w'.heap.size 1 A ((BT l).getD []).length c (AO ((BT l).getD [])):=by
 rcases h with ⟨t,v,h1,rfl,G,hb⟩|⟨h1,rfl,hb⟩
 .obtain⟨A,c,rfl,hr⟩:=Rd.of_own G;exact⟨hb,A,c,by rw[h1];rfl,by rw[h1];exact hr⟩
 exact⟨hb,none,0,by rw[h1];rfl,by rw[h1];exact Rd.nil _ _ _⟩
theorem UW (w B n c A xs)(hr:Rd w B 1 A n c xs)(h1:∀u∈xs,u.oneCell'=true)(hb:n * 1<=140737488355328)(hB:B<=w.heap.size):
 Calls prog 107 #[.slice A n c] w (GT w 5 1 n xs):=by
 have:=λW=>Lib.run_eql_slice_nil (P:=prog) W 55 5 A n c 0 0 underlying55;cases A with
 | none=>
   obtain⟨rfl,rfl⟩:=hr.none_;go_enter func107,ntmps107;(go_wp2_with fail);go_ret;exact⟨_,rfl,Av _ _ _ _,AC _ _⟩
 | some ad=>
   have I:=Ew w (base:=w.heap.size) 5 1 0 #[] (AD _) gm rfl;have O:=hr.alloc hB (.cells #[] 5);go_enter func107,ntmps107;go_wp2_with (at_builtin;refine Aw _ As rfl _ _ rfl w.heap.size _ 0 [] rfl I B (some ad) _ c _ rfl O h1 gd gj ?_;intro v2 w2 G T _;simp only[BL,CN]at G;have V:=Au (hI w (.cells #[] 5)) (AD _) I T gj)
   go_ret;exact⟨v2,rfl,G,V⟩
theorem Hk {W:World}{b p v}(hne:p.block≠b)(h:W.cell? p=v)(x y):((W.setCell (gX b 0) x).setCell (gX b 1) y).cell? p=v:=by
 rw[Gw,Gw]
 .exact h
 .intro q;exact hne (by rw[<-q])
 intro q;exact hne (by rw[<-q])
theorem GC (most l e):(num most l e).2.1.length<=l.length:=Te most l e
theorem UX (r):(Dd r).length<=r.2.1.length:=by unfold Dd;split<;>simp
theorem UY (l e):(rdF l e).2.1.length<=l.length:=by
 unfold rdF;have h1:=GC 4294967295 l e;have h2:=GC 16 (num 4294967295 l e).2.1 (num 4294967295 l e).2.2;have h3:=UX (num 16 (num 4294967295 l e).2.1 (num 4294967295 l e).2.2);have h4:=GC 255 (Dd (num 16 (num 4294967295 l e).2.1 (num 4294967295 l e).2.2)) (DA (num 16 (num 4294967295 l e).2.1 (num 4294967295 l e).2.2));have h5:=GC 1 (num 255 (Dd (num 16 (num 4294967295 l e).2.1 (num 4294967295 l e).2.2)) (DA (num 16 (num 4294967295 l e).2.1 (num 4294967295 l e).2.2))).2.1 (num 255 (Dd (num 16 (num 4294967295 l e).2.1 (num 4294967295 l e).2.2)) (DA (num 16 (num 4294967295 l e).2.1 (num 4294967295 l e).2.2))).2.2;exact AS h5 (AS h4 (AS h3 (AS h2 h1)))
theorem OS:∀n l e acc,(DI n l e acc).2.1.length<=l.length:=by
 intro n;induction n with
 | zero=>intro l e acc;simp[DI]
 | succ n ih=>
   intro l e acc;simp only[DI];split
   .simp
   exact AS (ih _ _ _) (UY l e)
theorem L5 {l}(h:(rdS l 0).err≠0):uId l=0/\uFs l=[]/\EO l=[]:=by
 unfold uId uFs EO;rw[AE h,AE h,AE h];exact⟨rfl,rfl,rfl⟩
theorem OT {l lf id fs}(h:rdS l 0=⟨id,fs,lf,0⟩):uId l=id/\uFs l=fs/\EO l=lf:=by
 unfold uId uFs EO;rw[h];exact⟨rfl,rfl,rfl⟩
def Hl (b bf:Nat) (wr:World) (fid:UInt32) (nm:ByteArray) (l7:List UInt8) (wx:World):Prop:=
 (∃A c,RdrA wx b A c l7 0)/\Oth b wr wx/\dH wx bf [im fid.toNat,.string nm,ip 0,.bool false]
theorem Hl.drew {b bf wr wx fid nm l7}(h:Hl b bf wr fid nm l7 wx):Hl b bf wr fid nm l7 wx.drew:=by
 obtain⟨⟨A,c,h1⟩,h2,h3⟩:=h;exact⟨⟨A,c,h1.keep (AC _ wx).drew⟩,h2.drew,h3.keep (AC _ wx).drew h3.z⟩
section
variable {w6 wr:World} {b bf c c2:Nat} {A A2:Option Addr} {l l2:List UInt8} {fid:UInt32} {s0 nm:ByteArray}
theorem td1 (rd6:RdrA w6 b A c l 0)(hr2:Rd w6 b 1 A2 l2.length c2 (AO l2))(zb:b<bf)(zf:wr.heap.size<=bf)(ho:Oth b wr w6)(fb:dH w6 bf [im fid.toNat,.string s0,ip 0,.bool false]):
 Hl b bf wr fid nm l2 ((w6.setCell (gX bf 1) (.string nm)).setCell (gX b 0) (.slice A2 l2.length c2)):=
 ⟨⟨A2,c2,(rd6.elsewhere (p:=gX bf 1) zb (.string nm)).set0 (hr2.below ((AC b w6).setCell (p:=gX bf 1) (Ad zb) _))⟩,(ho.setNew (p:=gX bf 1) zf (.string nm)).set 0 _,
  (fb.set (j:=1) (.string nm) rfl).else (p:=gX b 0) (Cy zb) _⟩
theorem td2 (rd6:RdrA w6 b A c l 0)(hr2:Rd w6 b 1 A2 l2.length c2 (AO l2))(zb:b<bf)(zf:wr.heap.size<=bf)(ho:Oth b wr w6)(fb:dH w6 bf [im fid.toNat,.string s0,ip 0,.bool false]):
 Hl b bf wr fid nm l2 ((w6.setCell (gX b 0) (.slice A2 l2.length c2)).setCell (gX bf 1) (.string nm)):=
 ⟨⟨A2,c2,(rd6.set0 hr2).elsewhere (p:=gX bf 1) zb (.string nm)⟩,(ho.set 0 _).setNew (p:=gX bf 1) zf (.string nm),
  (fb.else (p:=gX b 0) (Cy zb) _).set (j:=1) (.string nm) rfl⟩
end
def UZ (w:World) (l:List UInt8) (e:Ending) (w':World):Prop:=
 ∃F fc A c,e = .returned (.tuple #[.agg #[im ((uId l).toNat:Int),.slice F (uFs l).length fc],.slice A (EO l).length c,io ((rdS l 0).err:Int)]) /\
  w'.ownsRow w.heap.size 89 4 (.slice F (uFs l).length fc) (uFs l).length (AZ (uFs l))/\w'.ownsRow w.heap.size 5 1 (.slice A (EO l).length c) (EO l).length (AO (EO l))/\Below w.heap.size w w'
abbrev JU:=Nat×List UInt8×Bool
def Ai (l:List UInt8) (bad:Bool):JU:=if (Var.get l).2.2≠0\/bad=true then (0,l,true) else ((Var.get l).1,l.drop (Var.get l).2.1,false)
theorem JV {l bad}(h:(Var.get l).2.2≠0\/bad=true):Ai l bad=(0,l,true):=by unfold Ai;rw[AJ h]
theorem L6 {l bad}(h:¬((Var.get l).2.2≠0\/bad=true)):Ai l bad=((Var.get l).1,l.drop (Var.get l).2.1,false):=by unfold Ai;rw[AE h]
abbrev OU:=ByteArray×List UInt8×Bool
def C7 (l:List UInt8) (bad:Bool):OU:=
 if (Ai l bad).2.2=true\/(Ai l bad).2.1.length<(Ai l bad).1 then (ByteArray.empty,(Ai l bad).2.1,true)
 else (⟨((Ai l bad).2.1.take (Ai l bad).1).toArray⟩,(Ai l bad).2.1.drop (Ai l bad).1,false)
def Ei:Nat->List UInt8->Bool->List ByteArray->List ByteArray×List UInt8×Bool
 | 0,l,bad,acc=>(acc,l,bad)
 | n+1,l,bad,acc=>if bad=true then (acc,l,true) else Ei n (C7 l false).2.1 ((C7 l false).2.2||decide (8<acc.length+1)) (acc++[(C7 l false).1])
structure RdP (w:World) (P:Nat->Prop) (A:Option Addr) (n c:Nat) (l:List UInt8):Prop where
 rd:Rd w w.heap.size 1 A n c (AO l)
 at_:0<n->∃b off,A=some ⟨b,off,none⟩/\P b
section
variable {w w':World} {P Q:Nat->Prop} {A:Option Addr} {n c:Nat} {l:List UInt8}
theorem RdP.keep (h:RdP w P A n c l)(hsz:w.heap.size<=w'.heap.size)(hk:∀p:Addr,P p.block->p.block<w.heap.size->w'.cell? p=w.cell? p):RdP w' P A n c l:=
 ⟨⟨h.rd.len,h.rd.le,h.rd.cap,λhn=>by
  obtain⟨b,off,e,hb,hc⟩:=h.rd.at_ hn;obtain⟨b2,G,e2,hp⟩:=h.at_ hn;rw[e]at e2;injection e2 with e2;injection e2 with e2 _;subst e2;exact⟨b,off,e,AV hb hsz,λj u hu=>(hk ⟨b,off+j,none⟩ hp hb).trans (hc j u hu)⟩⟩,h.at_⟩
theorem RdP.imp (h:RdP w P A n c l)(hi:∀k,P k->k<w.heap.size->Q k):RdP w Q A n c l:=
 ⟨h.rd,λhn=>by
  obtain⟨b,off,e,hb,hc⟩:=h.rd.at_ hn;obtain⟨b2,G,e2,hp⟩:=h.at_ hn;rw[e]at e2;injection e2 with e2;injection e2 with e2 _;subst e2;exact⟨b,off,e,hi b hp hb⟩⟩
theorem RdP.of {B}(h:Rd w B 1 A n c (AO l))(hB:B<=w.heap.size)(hi:∀k,k<B->P k):RdP w P A n c l:=
 ⟨h.more hB,λhn=>by
  obtain⟨b,off,e,hb,hc⟩:=h.at_ hn;exact⟨b,off,e,hi b hb⟩⟩
theorem RdP.own {base}(h:w.ownsRow base 5 1 (.slice A n c) n (AO l))(hi:∀k,base<=k->P k):RdP w P A n c l:=by
 obtain⟨A',c',q,hr⟩:=Rd.of_own h;injection q with q1 q2 q3;subst q1 q3;refine⟨hr,λhn=>?_⟩;obtain⟨g,cap,q,hb,_⟩:=h.form hn;injection q with q1 _ _;exact⟨g,0,q1,hi g hb⟩
theorem RdP.lo (h:RdP w P A l.length c l){lo}(hlo:lo<=l.length):∃A2 l2,l2=l.drop lo /\
 (∀k W,(Instr.sliceAt 55 (.slice A l.length c) (some (.int k (lo:Int))) none none).run prog W = .ok (.slice A2 l2.length (c-lo)) W) /\
 (∀k W,(Instr.slice 55 (.slice A l.length c) (some (.int k (lo:Int))) none none).run prog W = .ok (.slice A2 l2.length (c-lo)) W)/\RdP w P A2 l2.length (c-lo) l2:=by
 have hr:=h.rd;refine⟨(if c=lo then A else A.map (·.add (lo * 1))),l.drop lo,rfl,λk W=>?_,λk W=>?_,?_,?_⟩
 .rw[F6];exact Iu As A l.length c k (lo:Int) lo rfl hlo hr.le W
 .rw[F6];exact I9 As A l.length c k (lo:Int) lo rfl hlo hr.le W
 .have:=hr.cut hlo (AD _);rw[F6];rw[CF (by simp[AO])]at this;simpa [AO,List.map_drop]using this
 intro hn;rw[F6]at hn;have G:=hr.le;obtain⟨b,off,e,hp⟩:=h.at_ gd;refine⟨b,off+lo * 1,?_,hp⟩;rw[AE gd,e];simp[DF]
end
structure dS (w:World) (b:Nat) (P:Nat->Prop) (A:Option Addr) (c:Nat) (l:List UInt8) (e:Bool):Prop where
 c0:w.cell? ⟨b,0,none⟩=some (.slice A l.length c)
 c1:w.cell? ⟨b,1,none⟩=some (.bool e)
 f0:w.frozen? ⟨b,0,none⟩=false
 f1:w.frozen? ⟨b,1,none⟩=false
 z:b<w.heap.size
 rd:RdP w P A l.length c l
 nP:¬P b
section
variable {w w':World} {b c B:Nat} {P Q:Nat->Prop} {A:Option Addr} {l:List UInt8} {e:Bool}
theorem dS.keepB (h:dS w b P A c l e)(hb:Below B w w')(hz:b<B)(hP:∀k,P k->k<w.heap.size->k<B):dS w' b P A c l e where
 c0:=(hb.cell (p:=gX b 0) hz).trans h.c0
 c1:=(hb.cell (p:=gX b 1) hz).trans h.c1
 f0:=(hb.frozen (p:=gX b 0) hz).trans h.f0
 f1:=(hb.frozen (p:=gX b 1) hz).trans h.f1
 z:=AV h.z hb.size
 rd:=h.rd.keep hb.size λp hp hl=>hb.cell (hP _ hp hl)
 nP:=h.nP
theorem dS.keep (h:dS w b P A c l e)(hb:Below w.heap.size w w'):dS w' b P A c l e:=h.keepB hb h.z λ_ _ hl=>hl
theorem dS.drew (h:dS w b P A c l e):dS w.drew b P A c l e:=h.keep ((AC _ w).drew)
theorem dS.imp (h:dS w b P A c l e)(hi:∀k,P k->k<w.heap.size->Q k)(hn:¬Q b):dS w b Q A c l e:=⟨h.c0,h.c1,h.f0,h.f1,h.z,h.rd.imp hi,hn⟩
theorem CL {p q}(hne:q.block≠p.block)(x):(w.setCell p x).cell? q=w.cell? q/\(w.setCell p x).frozen? q=w.frozen? q:=by
 have hb:(w.setCell p x).heap[q.block]? = w.heap[q.block]?:=Below.heap_setCell _ _ _ _ hne;exact⟨DE (w:=w) hb,EY (w:=w) hb⟩
theorem dS.elsewhere (h:dS w b P A c l e){p}(hp:b≠p.block)(hP:¬P p.block)(x):dS (w.setCell p x) b P A c l e:=
 ⟨(CL (q:=gX b 0) hp x).1.trans h.c0,(CL (q:=gX b 1) hp x).1.trans h.c1,(CL (q:=gX b 0) hp x).2.trans h.f0,(CL (q:=gX b 1) hp x).2.trans h.f1,
  by simpa using h.z,h.rd.keep gj λq hq _=>(CL (p:=p) (q:=q) (λr=>hP (by rw[<-r];exact hq)) x).1,h.nP⟩
theorem dS.set0 (h:dS w b P A c l e){A2 c2 l2}(hr:RdP w P A2 l2.length c2 l2):dS (w.setCell (gX b 0) (.slice A2 l2.length c2)) b P A2 c2 l2 e:=by
 have:=h.c0;have:=h.c1;have:=h.f0;have:=h.f1;exact⟨by go_simp,by go_simp,by go_simp,by go_simp,by simpa using h.z,hr.keep gj λq hq _=>(CL (p:=gX b 0) (q:=q) (λr=>h.nP (by have r2:q.block=b:=r;rw[<-r2];exact hq)) _).1,h.nP⟩
theorem dS.set1 (h:dS w b P A c l e)(e2):dS (w.setCell (gX b 1) (.bool e2)) b P A c l e2:=by
 have:=h.c0;have:=h.c1;have:=h.f0;have:=h.f1;exact⟨by go_simp,by go_simp,by go_simp,by go_simp,by simpa using h.z,h.rd.keep gj λq hq _=>(CL (p:=gX b 1) (q:=q) (λr=>h.nP (by have r2:q.block=b:=r;rw[<-r2];exact hq)) _).1,h.nP⟩
end
theorem OV (w){P c A l}(hr:Rd w w.heap.size 1 A l.length c (AO l))(t)(hP:∀k,k<w.heap.size->P k)(hn:¬P w.heap.size):dS (w.alloc (.cells #[.slice A l.length c,.bool false] t)) w.heap.size P A c l false:=by
 have x:=Dc w #[.slice A l.length c,.bool false] t;exact⟨x.cell 0 _ rfl,x.cell 1 _ rfl,x.free 0,x.free 1,by rw[x.size];omega,.of (hr.below x.below) gj hP,hn⟩
def OX (w:World) (b:Nat) (P:Nat->Prop) (r:JU) (e:Ending) (w':World):Prop:=
 e = .returned (il (r.1:Int))/\(∃A c,dS w' b P A c r.2.1 r.2.2)/\Oth b w w'
def OY (w:World) (b:Nat) (P:Nat->Prop) (r:OU) (e:Ending) (w':World):Prop:=
 e = .returned (.string r.1)/\(∃A c,dS w' b P A c r.2.1 r.2.2)/\Oth b w w'
namespace Var
theorem Oa:∀l:List UInt8,Ab l<l.length->val (l.take (Ab l+1))<((l.getD (Ab l) 0).toNat+1) * 128^Ab l
 | [],h=>by simp[Ab]at h
 | c::r,h=>by
   simp only[Ab]at h ⊢;by_cases hc:c.toNat<128
   .simp only[AJ hc];simp only[BL,EL,List.take_zero,val,List.getD_cons_zero,Nat.pow_zero];omega
   simp only[AE hc]at h ⊢;have:=Oa r (by simpa using h);have hg:(c::r).getD (Ab r+1) 0=r.getD (Ab r) 0:=gj;have ev:val ((c::r).take (Ab r+1+1))=c.toNat % 128+128 * val (r.take (Ab r+1)):=by simp[val]
   rw[ev,hg,Nat.pow_succ,<-Nat.mul_assoc];generalize ((r.getD (Ab r) 0).toNat+1) * 128^Ab r=X at *;omega
theorem get_lt (l):(get l).1<18446744073709551616:=by
 rw[JA];have:=NN l;split
 .decide
 split
 .decide
 split
 .decide
 rename_i h1 h2 h3;have hv:=Oa l gd;show val (l.take (Ab l+1))<_;by_cases h9:Ab l=9
 .have hb:(l.getD (Ab l) 0).toNat<=1:=by
   apply Nat.le_of_not_lt;intro q;exact h3 (.inl ⟨h9,q⟩)
  rw[h9]at hv hb ⊢;have:((l.getD 9 0).toNat+1) * 128^9<=2 * 128^9:=Cc _ gd;have e:2 * 128^9=18446744073709551616:=gm;omega
 have hb:=(l.getD (Ab l) 0).toNat_lt;have hp:128^Ab l<=128^8:=Nat.pow_le_pow_right gm gd;have:((l.getD (Ab l) 0).toNat+1) * 128^Ab l<=256 * 128^8:=Nat.mul_le_mul gd hp;have e:256 * 128^8=18446744073709551616:=gm;omega
end Var
theorem FG (l bad):(Ai l bad).1<18446744073709551616:=by
 unfold Ai;split
 .exact(by decide:0<18446744073709551616)
 exact Var.get_lt l
theorem Ub (l bad):(Ai l bad).2.1.length<=l.length:=by
 unfold Ai;split
 .exact AD _
 simp
theorem Uc {n l bad acc}(h:n=0\/bad=true):Ei n l bad acc=(acc,l,bad):=by
 cases n with
 | zero=>rfl
 | succ n=>
   have hb:bad=true:=by simpa using h
   rw[Ei,AJ hb,hb]
theorem Ob (n l acc):Ei (n+1) l false acc=Ei n (C7 l false).2.1 ((C7 l false).2.2||decide (8<acc.length+1)) (acc++[(C7 l false).1]):=by
 rw[Ei,AE gj]
def mk7 (n1 n2 n3 n4 n5 n6:Nat) (ms:List ByteArray):Sn:=⟨UInt64.ofNat n1,UInt64.ofNat n2,UInt64.ofNat n3,UInt64.ofNat n4,UInt64.ofNat n5,UInt32.ofNat n6,ms⟩
abbrev MSn:=Sn×List UInt8×Bool
def EQ (l:List UInt8) (bad:Bool):MSn:=
 let a:=Ai l bad
 let b:=Ai a.2.1 a.2.2
 let c:=Ai b.2.1 b.2.2
 let d:=Ai c.2.1 c.2.2
 let e:=Ai d.2.1 d.2.2
 let f:=Ai e.2.1 e.2.2
 let g:=Ai f.2.1 (f.2.2||decide (4294967295<f.1))
 let t:=Ei g.1 g.2.1 g.2.2 []
 (mk7 a.1 b.1 c.1 d.1 e.1 f.1 t.1,t.2.1,t.2.2)
theorem Oc {l l1 l2 l3 l4 l5 l6 l7 l8 bad b1 b2 b3 b4 b5 b6 b7 b8 n1 n2 n3 n4 n5 n6 n7 ms}(h1:Ai l bad=(n1,l1,b1))(h2:Ai l1 b1=(n2,l2,b2))(h3:Ai l2 b2=(n3,l3,b3))(h4:Ai l3 b3=(n4,l4,b4))(h5:Ai l4 b4=(n5,l5,b5))(h6:Ai l5 b5=(n6,l6,b6))(h7:Ai l6 (b6||decide (4294967295<n6))=(n7,l7,b7))(h8:Ei n7 l7 b7 []=(ms,l8,b8)):
 EQ l bad=(mk7 n1 n2 n3 n4 n5 n6 ms,l8,b8):=by
 unfold EQ;simp only[h1,h2,h3,h4,h5,h6,h7,h8]
def oS:Nat->List UInt8->Bool->List Ps->List Ps×List UInt8×Bool
 | 0,l,bad,acc=>(acc,l,bad)
 | n+1,l,bad,acc=>if bad=true then (acc,l,true) else oS n (EO l) (decide ((rdS l 0).err≠0)||decide (16<acc.length+1)) (acc++[(uId l,uFs l)])
theorem Ud {n l bad acc}(h:n=0\/bad=true):oS n l bad acc=(acc,l,bad):=by
 cases n with
 | zero=>rfl
 | succ n=>
   have hb:bad=true:=by simpa using h
   rw[oS,AJ hb,hb]
theorem Od (n l acc):oS (n+1) l false acc=oS n (EO l) (decide ((rdS l 0).err≠0)||decide (16<acc.length+1)) (acc++[(uId l,uFs l)]):=by
 rw[oS,AE gj]
def oN:Nat->List UInt8->Bool->List Sn->List Sn×List UInt8×Bool
 | 0,l,bad,acc=>(acc,l,bad)
 | n+1,l,bad,acc=>if bad=true then (acc,l,true) else oN n (EQ l false).2.1 ((EQ l false).2.2||decide (32<acc.length+1)) (acc++[(EQ l false).1])
theorem Ue {n l bad acc}(h:n=0\/bad=true):oN n l bad acc=(acc,l,bad):=by
 cases n with
 | zero=>rfl
 | succ n=>
   have hb:bad=true:=by simpa using h
   rw[oN,AJ hb,hb]
theorem Oe (n l acc):oN (n+1) l false acc=oN n (EQ l false).2.1 ((EQ l false).2.2||decide (32<acc.length+1)) (acc++[(EQ l false).1]):=by
 rw[oN,AE gj]
abbrev MOp:=List Ps×List Sn×Bool
def opn (l:List UInt8):MOp:=
 let a:=Ai l false
 let s:=oS a.1 a.2.1 a.2.2 []
 let b:=Ai s.2.1 s.2.2
 let n:=oN b.1 b.2.1 b.2.2 []
 (s.1,n.1,n.2.2)
theorem Of {l l1 l2 l3 l4 b1 b2 b3 b4 n m ss ns}(h1:Ai l false=(n,l1,b1))(h2:oS n l1 b1 []=(ss,l2,b2))(h3:Ai l2 b2=(m,l3,b3))(h4:oN m l3 b3 []=(ns,l4,b4)):opn l=(ss,ns,b4):=by
 unfold opn;simp only[h1,h2,h3,h4]
def ER (ns:List Sn):Nat:=(CK ns ns.length).id.toNat
theorem Uf (ns p):ER (ns++[p])=p.id.toNat:=by
 unfold ER;rw[show(ns++[p]).length=ns.length+1 by simp,JL];simp[List.getD]
def BO (l:List UInt8):List UInt8:=(BT l).getD []
def Cs (l:List UInt8):Nat:=
 if (BT l).isSome=false then 101 else if (BO l).length<3\/(BO l).take 3≠tf1 then 100
 else if (opn ((BO l).drop 3)).2.2=true\/B7 (opn ((BO l).drop 3)).1 (opn ((BO l).drop 3)).2.1 (ER (opn ((BO l).drop 3)).2.1)=false\/wrS (opn ((BO l).drop 3)).1 (opn ((BO l).drop 3)).2.1≠l then 102 else 0
def GD (w:World) (l:List UInt8):Ending->World->Prop:=
 if Cs l=0 then DT w 0 (opn ((BO l).drop 3)).1 (opn ((BO l).drop 3)).2.1 (ER (opn ((BO l).drop 3)).2.1) else DT w (Cs l) [] [] 0
theorem Hm {w w' l er}(h:Cs l=er)(h0:er≠0)(hb:Below w.heap.size w w'):GD w l (.returned (.tuple #[.agg Aa,io er])) w':=by
 unfold GD;rw[h,AE h0];exact Gg w w' er hb
section
variable {w w':World} {b c B:Nat} {P:Nat->Prop} {A:Option Addr} {l:List UInt8} {e:Bool}
theorem dS.set7 {b2:Nat} {v0 v1 v2 v3 v4 v5 v6:Value} (h:dS w b P A c l e) (hb:b≠b2) (hP:¬P b2):dS (set7 w b2 v0 v1 v2 v3 v4 v5 v6) b P A c l e:=
 ((((((h.elsewhere (p:=gX b2 0) hb hP _).elsewhere (p:=gX b2 1) hb hP _).elsewhere (p:=gX b2 2) hb hP _).elsewhere (p:=gX b2 3) hb hP _).elsewhere (p:=gX b2 4) hb hP _).elsewhere (p:=gX b2 5) hb hP _).elsewhere (p:=gX b2 6) hb hP _
theorem Oth.set7 {b2:Nat} {u:World} {v0 v1 v2 v3 v4 v5 v6:Value} (h:Oth b u w) (hb:u.heap.size<=b2):Oth b u (set7 w b2 v0 v1 v2 v3 v4 v5 v6):=
 ((((((h.setNew (p:=gX b2 0) hb _).setNew (p:=gX b2 1) hb _).setNew (p:=gX b2 2) hb _).setNew (p:=gX b2 3) hb _).setNew (p:=gX b2 4) hb _).setNew (p:=gX b2 5) hb _).setNew (p:=gX b2 6) hb _
end
structure GS (w0:World) (B0 br bs:Nat) (P:Nat->Prop) (q:Sn) (A:Option Addr) (c:Nat) (l:List UInt8) (e:Bool) (fA:Option Addr) (fc:Nat) (ms:List ByteArray) (wr:World):Prop where
 rd:dS wr br P A c l e
 bx:dH wr bs [il q.id.toNat,il q.par.toNat,il q.seq.toNat,il q.off.toNat,il q.tim.toNat,im q.sch.toNat,.slice fA ms.length fc]
 own:wr.ownsRow (bs+1) 9 1 (.slice fA ms.length fc) ms.length (AY ms)
 rb:dH wr B0 [il 0,il 0,il 0,il 0,il 0,im 0,ir]
 oth:Oth br w0 wr
 o1:br<bs
 o2:B0<bs
 o3:br<B0
 o4:w0.heap.size<=B0
 oP:∀k,P k->k<B0
section
variable {w0 wr w7:World} {B0 br bs c fc:Nat} {P:Nat->Prop} {e:Bool} {q:Sn} {A fA:Option Addr} {l:List UInt8} {ms:List ByteArray}
theorem GS.go (h:GS w0 B0 br bs P q A c l e fA fc ms wr){A2 c2 l2 e2}(hr:dS w7 br P A2 c2 l2 e2)(ho:Oth br wr w7):GS w0 B0 br bs P q A2 c2 l2 e2 fA fc ms w7:=
 ⟨hr,h.bx.oth ho (by have:=h.o1;omega),FT h.own ho (by have:=h.o1;omega),h.rb.oth ho (by have:=h.o3;omega),h.oth.trans ho,h.o1,h.o2,h.o3,h.o4,h.oP⟩
theorem GS.drew (h:GS w0 B0 br bs P q A c l e fA fc ms wr):GS w0 B0 br bs P q A c l e fA fc ms wr.drew:=h.go h.rd.drew (Oth.refl br wr).drew
theorem GS.why (h:GS w0 B0 br bs P q A c l e fA fc ms wr)(e2):GS w0 B0 br bs P q A c l e2 fA fc ms (wr.setCell (gX br 1) (.bool e2)):=h.go (h.rd.set1 e2) ((Oth.refl br wr).set 1 _)
theorem GS.lit (h:GS w0 B0 br bs P q A c l e fA fc ms wr)(s):
 (wr.alloc (.cells #[.string s] 9)).ownsRow (bs+1) 9 1 (.slice fA ms.length fc) ms.length (AY ms)/\∀j u,([.string s]:List Value)[j]? = some u->(wr.alloc (.cells #[.string s] 9)).cell? ((⟨wr.heap.size,0,none⟩:Addr).add j)=some u:=by
 refine⟨h.own.alloc _,λj u hu=>?_⟩;have:=(AP wr #[.string s] 9).cell j u hu;rw[DF,BL];exact this
theorem GS.grown (h:GS w0 B0 br bs P q A c l e fA fc ms wr){s w8 g cap}(hown:w8.ownsRow (bs+1) 9 1 (.slice (gY g 0) (ms.length+1) cap) (ms.length+1) (AY ms++[.string s]))(hg:(wr.alloc (.cells #[.string s] 9)).grownBy w8 (Value.slice fA ms.length fc).ownBlock):
 w8.cell? (gX bs 6)=some (.slice fA ms.length fc)/\w8.frozen? ⟨bs,6,none⟩=false /\
  GS w0 B0 br bs P q A c l e (gY g 0) cap (ms++[s]) (w8.setCell (gX bs 6) (.slice (gY g 0) (ms.length+1) cap)):=by
 have:=h.bx.z;have h1:=h.o1;have h2:=h.o2;have hb:Below (bs+1) wr w8:=Au ((AC (bs+1) wr).alloc gd (.cells #[.string s] 9)) (AD _) (h.own.alloc _) hg gt;have bx:=h.bx.keep hb (E9 bs);have e1:(ms++[s]).length=ms.length+1:=gj;have e2:AY ms++[.string s]=AY (ms++[s]):=by simp[AY]
 refine⟨bx.cell 6 _ rfl,bx.free 6 gj,?_,?_,?_,?_,?_,h1,h2,h.o3,h.o4,h.oP⟩
 .exact(h.rd.keepB hb gd (λk hk _=>by have:=h.oP k hk;omega)).elsewhere (p:=gX bs 6) (Cy h1) (λhk=>by have:=h.oP bs hk;omega) _
 .rw[e1];exact bx.set (j:=6) _ rfl
 .rw[e1,<-e2];exact B6 hown (E9 _) _
 .exact(h.rb.keep hb gd).else (by show bs≠B0;omega) _
 refine Oth.setNew ?_ (by have:=h.o4;show w0.heap.size<=bs;omega) _;have ho:=h.oth;exact⟨hb.os.trans ho.os,hb.tape.trans ho.tape,hb.output.trans ho.output,AS ho.size hb.size,λk hk G=>(hb.block k (by have:=h.o4;omega)).trans (ho.block k hk G)⟩
end
def GST (w0:World) (B0 br bs:Nat) (P:Nat->Prop) (q:Sn) (l:List UInt8) (ms:List ByteArray) (wx:World):Prop:=
 ∃A c g cap,GS w0 B0 br bs P q A c (C7 l false).2.1 (C7 l false).2.2 (some ⟨g,0,none⟩) cap (ms++[(C7 l false).1]) wx
def GSR (w0:World) (B0 br bs:Nat) (P:Nat->Prop) (q:Sn) (Q:List ByteArray×List UInt8×Bool) (nv:Value) (wr:World):Prop:=
 ∃(m:Nat) (A:Option Addr) (c:Nat) (l:List UInt8) (e:Bool) (fA:Option Addr) (fc:Nat) (ms:List ByteArray),nv = il m/\m<18446744073709551616/\(e=false->ms.length<=8)/\ga (Ei m l e ms=Q)/\GS w0 B0 br bs P q A c l e fA fc ms wr
def Og (w:World) (b:Nat) (P:Nat->Prop) (r:MSn) (e:Ending) (w':World):Prop:=
 ∃F fc,e = .returned (.agg #[il (r.1.id.toNat:Int),il (r.1.par.toNat:Int),il (r.1.seq.toNat:Int),il (r.1.off.toNat:Int),il (r.1.tim.toNat:Int),im (r.1.sch.toNat:Int),.slice F r.1.ms.length fc])/\w'.ownsRow w.heap.size 9 1 (.slice F r.1.ms.length fc) r.1.ms.length (AY r.1.ms)/\(∃A c,dS w' b P A c r.2.1 r.2.2)/\Oth b w w'
theorem Oh {w0 wr B0 br bs c fc P P2 e q A fA l ms r v0 v1 v2 v3 v4 v5 v6}(h:GS w0 B0 br bs P q A c l e fA fc ms wr)(hr:r=(⟨q.id,q.par,q.seq,q.off,q.tim,q.sch,ms⟩,l,e))(hi:∀k,P k->P2 k)(hn:¬P2 br):
 Og w0 br P2 r (.returned (.agg #[il q.id.toNat,il q.par.toNat,il q.seq.toNat,il q.off.toNat,il q.tim.toNat,im q.sch.toNat,.slice fA ms.length fc])) (set7 wr B0 v0 v1 v2 v3 v4 v5 v6):=by
 subst hr;have:=h.o2;have:=h.o4;exact⟨fA,fc,rfl,B4 (JG h.own gd) gd,⟨A,c,(h.rd.set7 (Cy h.o3) (λhk=>Nat.lt_irrefl _ (h.oP _ hk))).imp (λk hk _=>hi k hk) hn⟩,h.oth.set7 h.o4⟩
theorem IP {n}(h:n<18446744073709551616):(UInt64.ofNat n).toNat=n:=by rw[UInt64.toNat_ofNat'];omega
instance:Inhabited Fd:=⟨⟨0,ByteArray.empty,0,false⟩⟩
section
variable {l:List Fd} {k:Nat} {f:Fd} (hf:l.getD k default=f)
include hf
end
def Bk (id:UInt32) (l:List Fd) (name:ByteArray) (k:Nat):Nat:=
 if check id l≠0 then check id l
 else if l.length=8\/ED l=4294967295\/id.toNat=4294967295 then 4
 else if (!named name||CW l name)=true then 80
 else if k<1\/3<k then 10 else 0
def C8 (id:UInt32) (l:List Fd) (name:ByteArray) (k:Nat):UInt32:=if Bk id l name k=0 then UInt32.ofNat (id.toNat+1) else 0
def Bu (id:UInt32) (l:List Fd) (name:ByteArray) (k:Nat):List Fd:=if Bk id l name k=0 then l++[DH l name k] else []
def FH (w:World) (id:UInt32) (l:List Fd) (name:ByteArray) (k:Nat) (e:Ending) (w':World):Prop:=
 ∃v,e = .returned (.tuple #[v,io (Bk id l name k:Int)])/\J3 w' v (C8 id l name k) (Bu id l name k)/\Below w.heap.size w w'
theorem FH.bad {w w' id l name k er}(h1:Bk id l name k=er)(h2:C8 id l name k=0)(h3:Bu id l name k=[])(hb:Below w.heap.size w w'):
 FH w id l name k (.returned (.tuple #[.agg B3,io er])) w':=⟨_,by rw[h1],by rw[h2,h3];exact J3.none _,hb⟩
instance:Inhabited Vl:=⟨.none⟩
instance:Inhabited Cl:=⟨⟨0,0,⟨#[]⟩⟩⟩
def emp (s:ByteArray):Bool:=s.toList.isEmpty
theorem L7 (s):emp s=decide (s.size=0):=by
 unfold emp;rw[Lib.toList_data,Lib.size_eq];cases s.data.toList<;>simp
def C9 (c:Cl):Nat:=
 if 3<c.kind.toNat then 10
 else if (c.kind.toNat≠3/\emp c.s=false)\/(c.kind.toNat≠1/\c.kind.toNat≠2/\c.n≠0)\/(c.kind.toNat=2/\c.n≠0/\c.n≠1) then 1
 else if 64<c.s.size then 5 else 0
instance:Inhabited Sn:=⟨⟨0,0,0,0,0,0,[]⟩⟩
instance:Inhabited Nl:=⟨⟨default,none,0⟩⟩
instance:Inhabited Sl:=⟨⟨0,[],none,0⟩⟩
def zig (n:Int):Nat:=if 0<=n then (2 * n).toNat else (-2 * n-1).toNat
def Dz (m:Nat):Int:=if m % 2=0 then (m/2:Nat) else -((m/2:Nat):Int)-1
theorem Hn {n}(h0 : -9223372036854775808<=n)(h1:n<=9223372036854775807):zig n<18446744073709551616:=by
 unfold zig;split<;>omega
theorem Uh (a:Nat)(ha:a<18446744073709551616):bits .xor .u64 (a:Int) 18446744073709551615=18446744073709551615-(a:Int):=by
 have h:=u64_xor_nat a 18446744073709551615 ha gd;have e:a ^^^ 18446744073709551615=18446744073709551615-a:=by
  have h1:(BitVec.ofNat 64 a ^^^ BitVec.allOnes 64) = ~~~ (BitVec.ofNat 64 a):=BitVec.xor_allOnes;have h2:=congrArg BitVec.toNat h1;rw[BitVec.toNat_xor,BitVec.toNat_not,BitVec.toNat_allOnes,BitVec.toNat_ofNat]at h2;rw[Nat.mod_eq_of_lt gd]at h2;exact h2
 rw[e]at h;rw[show(18446744073709551615:Int)=((18446744073709551615:Nat):Int) from rfl,h];omega
theorem Ui (n)(h0 : -9223372036854775808<=n)(h1:n<=9223372036854775807):
 bits BinOp.xor .u64 (IntKind.u64.wrap (wrap64 (n * 2))) (IntKind.u64.wrap (n/9223372036854775808))=(zig n:Int):=by
 by_cases hs:0<=n
 .have e1:n/9223372036854775808=0:=gd;have e2:IntKind.u64.wrap (wrap64 (n * 2))=((2 * n).toNat:Int):=by
   rw[show IntKind.u64.wrap (wrap64 (n * 2))=(wrap64 (n * 2)) % 18446744073709551616 by simp[IntKind.wrap,IntKind.bits,IntKind.signed]];unfold wrap64;omega
  rw[e1,e2,show IntKind.u64.wrap 0=0 from rfl,xor_zero _ gd];unfold zig;rw[AJ hs]
 have e1:n/9223372036854775808 = -1:=gd;have e2:IntKind.u64.wrap (wrap64 (n * 2))=((2 * n+18446744073709551616).toNat:Int):=by
  rw[show IntKind.u64.wrap (wrap64 (n * 2))=(wrap64 (n * 2)) % 18446744073709551616 by simp[IntKind.wrap,IntKind.bits,IntKind.signed]];unfold wrap64;omega
 rw[e1,e2,show IntKind.u64.wrap (-1)=18446744073709551615 from rfl,Uh _ gd];unfold zig;rw[AE hs];omega
theorem Uj (n w)(h0 : -9223372036854775808<=n)(h1:n<=9223372036854775807):
 Calls prog 238 #[io n] w (EA w (Var.put (zig n))):=by
 have hz:=AB (Hn h0 h1);have ha:=Ui n h0 h1;clear h0 h1;go_enter func238,ntmps238;go_wp2_with fail
 refine(Eg _ _ gd (by have:=hz.o;omega)).mono ?_;rintro e w1 ⟨v1,rfl,hown1,hb1⟩;rw[BM]at hown1;clear ha;go_wp2_with fail
 go_ret;exact⟨v1,rfl,hown1,hb1⟩
def LB (l:List UInt8):Value:=.tuple #[io (Dz (Var.get l).1),io ((Var.get l).2.1:Int),io ((Var.get l).2.2:Int)]
def Uk (w:World) (l:List UInt8) (e:Ending) (w':World):Prop:=e = .returned (LB l)/\w=w'
theorem Ul (g:Nat)(h:g<18446744073709551616):
 bits BinOp.xor .i64 (wrap64 ((g:Int)/2)) (wrap64 (-wrap64 (bits BinOp.and .u64 (g:Int) 1)))=Dz g:=by
 have e1:bits BinOp.and .u64 (g:Int) 1=((g % 2:Nat):Int):=by
  have:=u64_and_nat g 1 h gd;rw[nat_mask1]at this;exact this
 have e2:wrap64 ((g:Int)/2)=((g/2:Nat):Int):=by rw[F7 _ ⟨gd,gd⟩];omega
 rw[e1,e2];rcases(show g % 2=0\/g % 2=1 by omega)with h0|h0
 .rw[h0];show IntKind.i64.wrap ((BitVec.ofInt 64 ((g/2:Nat):Int) ^^^ BitVec.ofInt 64 (wrap64 (-wrap64 ((0:Nat):Int)))).toNat:Int)=_;rw[show wrap64 (-wrap64 ((0:Nat):Int))=0 by decide +kernel,show BitVec.ofInt 64 0=0#64 from rfl,BitVec.xor_zero,BitVec.ofInt_natCast,BitVec.toNat_ofNat,
   Nat.mod_eq_of_lt gd,IntWalk.i64_in _ ⟨gd,gd⟩]
  unfold Dz;rw[AJ h0]
 rw[h0];show IntKind.i64.wrap ((BitVec.ofInt 64 ((g/2:Nat):Int) ^^^ BitVec.ofInt 64 (wrap64 (-wrap64 ((1:Nat):Int)))).toNat:Int)=_;rw[show wrap64 (-wrap64 ((1:Nat):Int)) = -1 by decide +kernel,show BitVec.ofInt 64 (-1)=BitVec.allOnes 64 from gm,BitVec.xor_allOnes,BitVec.toNat_not,
  BitVec.ofInt_natCast,BitVec.toNat_ofNat,Nat.mod_eq_of_lt gd,IntKind.wrap_i64]
 unfold Dz;rw[AE gd];omega
structure Ce where
 kind:UInt8
 n:Int64
 s:ByteArray
instance:Inhabited Ce:=⟨⟨0,0,ByteArray.empty⟩⟩
def Ce.cl (c:Ce):Cl:=⟨c.kind,c.n.toInt,c.s⟩
structure St where
 rows:Int64
 nulls:Int64
 som:Bool
 high:Bool
 mn:Ce
 mx:Ce
instance:Inhabited St:=⟨⟨0,0,false,false,default,default⟩⟩
structure En where
 name:ByteArray
 keys:Bool
 seq:UInt64
 rows:Int64
 sch:UInt32
 stats:List St
abbrev eNV (p : En) (A : Option Addr) (c : Nat) : Array Value:= #[.string p.name,.bool p.keys,il p.seq.toNat,io p.rows.toInt,im p.sch.toNat,.slice A p.stats.length c]
instance:Inhabited En:=⟨⟨ByteArray.empty,false,0,0,0,[]⟩⟩
def CZ (c:Ce):Bool:=decide (C9 c.cl=0) && !decide (c.kind.toNat=0)
def isZ (c:Ce):Bool:=decide (c.kind.toNat=0)&&(decide (c.n.toInt=0)&&decide (c.s.size=0))
def Dh (s:St):Bool:=
 decide (0<=s.nulls.toInt)&&(decide (s.rows.toInt<=256)&&(decide (s.nulls.toInt<=s.rows.toInt) &&
  (if s.som=true then decide (s.nulls.toInt<s.rows.toInt)&&(CZ s.mn&&(if s.high=true then CZ s.mx&&decide (s.mn.kind.toNat=s.mx.kind.toNat) else isZ s.mx))
   else decide (s.nulls.toInt=s.rows.toInt)&&(!s.high&&(isZ s.mn&&isZ s.mx)))))
def Oj (rows:Int64) (l:List St):Bool:=l.all λs=>decide (s.rows.toInt=rows.toInt)&&Dh s
def CP (x:En):Bool:=
 Aq x.name&&(decide (x.seq.toNat<=1073741824)&&(decide (0<=x.rows.toInt)&&(decide (x.rows.toInt<=256)&&(decide (1<=x.stats.length)&&(decide (x.stats.length<=8)&&(Oj x.rows x.stats &&
  (if x.keys=true then decide (x.sch.toNat=0)&&decide (x.stats.length=1) else !decide (x.sch.toNat=0))))))))
def Ca (met:List ByteArray) (s:ByteArray):Bool:=met.any λm=>m.toList==s.toList
theorem Gi {a b:ByteArray}(h:a.toList=b.toList):a=b:=by
 rw[EM,EM]at h;cases a;cases b;simp only[ByteArray.mk.injEq];exact Array.toList_inj.1 h
theorem Ho {met s}:Ca met s=true↔s∈met:=by
 unfold Ca;rw[List.any_eq_true];constructor
 .rintro⟨m,hm,h⟩;rw[Ap]at h;rw[<-Gi h];exact hm
 exact λh=>⟨s,h,gj⟩
def DW:List ByteArray->List En->Bool
 | _,[]=>true
 | met,x::l=>CP x&&(!Ca met x.name&&DW (met++[x.name]) l)
def BR (l:List En):Nat:=if 64<l.length then 4 else if DW [] l=true then 0 else 1
theorem JW {met l k}(hk:k<l.length)(h:CP (l.getD k default)=false\/(l.getD k default).name∈met++(l.take k).map En.name):DW met l=false:=by
 induction l generalizing met k with
 | nil=>simp at hk
 | cons x l ih=>
   cases k with
   | zero=>
     rcases h with h|h
     .have h:CP x=false:=h;simp[DW,h]
     have h:Ca met x.name=true:=Ho.2 (by simpa using h);simp[DW,h]
   | succ k=>
     have:=ih (met:=met++[x.name]) (k:=k) (by simpa using hk) (by simpa [Az]using h);simp[DW,this]
theorem Ok {met l}(h:∀k,k<l.length->CP (l.getD k default)=true/\(l.getD k default).name∉met++(l.take k).map En.name):DW met l=true:=by
 induction l generalizing met with
 | nil=>rfl
 | cons x l ih=>
   have h0:=h 0 gj;have h1:CP x=true:=h0.1;have h2:Ca met x.name=false:=by
    apply Bool.eq_false_iff.2;intro q;have:x.name∉met:=by simpa using h0.2
    exact this (Ho.1 q)
   have:=ih (met:=met++[x.name]) λk hk=>by
    have:=h (k+1) (by simpa using hk);simpa [Az]using this
   simp[DW,h1,h2,this]
theorem JX {met l}(h:DW met l=true):∀x∈l,CP x=true:=by
 induction l generalizing met with
 | nil=>simp
 | cons x l ih=>
   simp only[DW,BX]at h;intro y hy;rcases List.mem_cons.1 hy with rfl|hy
   .exact h.1
   exact ih h.2.2 y hy
def CA (c:Ce):List UInt8:=if c.kind.toNat=1 then Var.put (zig c.n.toInt) else if c.kind.toNat=2 then Var.put c.n.toInt.toNat else tx c.s
def E2 (s:St):List UInt8:=
 Var.put s.nulls.toInt.toNat++(if s.som=false then Var.put 0 else if s.high=true then Var.put 3++(Var.put s.mn.kind.toNat++(CA s.mn++CA s.mx)) else Var.put 1++(Var.put s.mn.kind.toNat++CA s.mn))
def CQ (l:List St):List UInt8:=l.flatMap E2
def DC (b:Bool):Nat:=if b=true then 1 else 0
def E3 (x:En):List UInt8:=tx x.name++(Var.put (DC x.keys)++(Var.put x.seq.toNat++(Var.put x.rows.toInt.toNat++(Var.put x.sch.toNat++(Var.put x.stats.length++CQ x.stats)))))
def Cj (l:List En):List UInt8:=l.flatMap E3
def mf1:List UInt8:=[77,70,49]
def wrE (l:List En):List UInt8:=mf1++Var.put l.length++Cj l
def Bq (l:List En):List UInt8:=DL (wrE l)
theorem Un {c}(h1:C9 c=0):c.kind.toNat<=3/\c.s.size<=64/\(c.kind.toNat≠3->c.s.size=0)/\(c.kind.toNat≠1->c.kind.toNat≠2->c.n=0)/\(c.kind.toNat=2->c.n=0\/c.n=1):=by
 unfold C9 at h1;have e:=L7 c.s;split at h1
 .omega
 split at h1
 .omega
 split at h1
 .omega
 rename_i a b d;rw[e]at b;simp only[decide_eq_false_iff_not]at b;refine⟨gd,gd,λq=>?_,λq r=>?_,λq=>?_⟩
 .apply Decidable.of_not_not;intro p;exact b (.inl ⟨q,p⟩)
 .apply Decidable.of_not_not;intro p;exact b (.inr (.inl ⟨q,r,p⟩))
 apply Decidable.of_not_not;intro p;exact b (.inr (.inr ⟨q,λr=>p (.inl r),λr=>p (.inr r)⟩))
theorem IQ {c}(h:CZ c=true):c.kind.toNat<=3/\c.kind.toNat≠0/\c.s.size<=64/\(c.kind.toNat≠3->c.s.size=0)/\(c.kind.toNat=3->c.n.toInt=0)/\(c.kind.toNat=2->c.n.toInt=0\/c.n.toInt=1):=by
 unfold CZ at h;simp only[BX,BI,GQ,decide_eq_false_iff_not]at h;obtain⟨a,b,d,e,f⟩:=Un h.1;exact⟨a,h.2,b,d,λq=>e (by show c.kind.toNat≠1;omega) (by show c.kind.toNat≠2;omega),f⟩
theorem JY (s)(h:s.size<=64):(tx s).length<=74:=by
 have:=Var.put_le10 (n:=s.size) gd;have:s.data.toList.length=s.size:=by rw[Array.length_toList];rfl
 unfold tx;rw[AR];omega
theorem Hp {c}(h:CZ c=true):(CA c).length<=74:=by
 obtain⟨h1,h2,h3,h4,h5,h6⟩:=IQ h;unfold CA;split
 .have:=Var.put_le10 (n:=zig c.n.toInt) (Hn (Int64.le_toInt c.n) (by have:=Int64.toInt_lt c.n;omega));omega
 split
 .rename_i q;have:=Var.put_le10 (n:=c.n.toInt.toNat) (by rcases h6 q with r|r<;>rw[r]<;>decide);omega
 exact JY _ h3
theorem JZ {s}(h:Dh s=true):0<=s.nulls.toInt/\s.nulls.toInt<=s.rows.toInt/\s.rows.toInt<=256/\(s.som=true->CZ s.mn=true/\(s.high=true->CZ s.mx=true/\s.mn.kind.toNat=s.mx.kind.toNat)):=by
 unfold Dh at h;simp only[BX,BI]at h;obtain⟨h1,h2,h3,h4⟩:=h;refine⟨h1,h3,h2,λq=>?_⟩;rw[AJ q]at h4;simp only[BX,BI]at h4;refine⟨h4.2.1,λr=>?_⟩;have h5:=h4.2.2;rw[AJ r]at h5;simpa only[BX,BI]using h5
theorem LD {s}(h:Dh s=true):(E2 s).length<=178:=by
 obtain⟨h1,h2,h3,h4⟩:=JZ h;have:=Var.put_le10 (n:=s.nulls.toInt.toNat) gd;have:=Var.put_le10 (n:=s.mn.kind.toNat) (by have:=s.mn.kind.toNat_lt;omega);have:=Var.put_le10 (n:=0) gd;have:=Var.put_le10 (n:=1) gd;have:=Var.put_le10 (n:=3) gd;unfold E2;rw[AR];split
 .omega
 rename_i q;obtain⟨b1,b2⟩:=h4 (by simpa using q);have:=Hp b1;split
 .rename_i r;have:=Hp (b2 r).1;simp only[AR];omega
 simp only[AR];omega
theorem Hq {s}(h:Aq s=true):1<=s.size/\s.size<=24:=by
 unfold Aq at h;simp only[BX,BI]at h;exact h.1
theorem Gj {x}(h:CP x=true):Aq x.name=true/\x.seq.toNat<=1073741824/\0<=x.rows.toInt/\x.rows.toInt<=256/\1<=x.stats.length/\x.stats.length<=8/\∀s∈x.stats,s.rows.toInt=x.rows.toInt/\Dh s=true:=by
 unfold CP at h;simp only[BX,BI]at h;obtain⟨h1,h2,h3,h4,h5,h6,h7,_⟩:=h;refine⟨h1,h2,h3,h4,h5,h6,λs hs=>?_⟩;have:=Da.1 h7 s hs;simpa only[BX,BI]using this
theorem LE {x}(h:CP x=true):(E3 x).length<=1550:=by
 obtain⟨h1,h2,h3,h4,h5,h6,h7⟩:=Gj h;have:=Hq h1;have:=JY x.name gd;have:=Var.put_le10 (n:=DC x.keys) (by unfold DC;split<;>omega);have:=Var.put_le10 (n:=x.seq.toNat) gd;have:=Var.put_le10 (n:=x.rows.toInt.toNat) gd;have:=Var.put_le10 (n:=x.sch.toNat) (by have:=x.sch.toNat_lt;omega);have:=Var.put_le10 (n:=x.stats.length) gd;have:(CQ x.stats).length<=x.stats.length * 178:=EP λs hs=>LD (h7 s hs).2;have:x.stats.length * 178<=8 * 178:=Cc _ h6;unfold E3;simp only[AR];omega
theorem Ol {l}(h:∀x∈l,CP x=true)(hl:l.length<=64):(wrE l).length<=99300:=by
 have:=Var.put_le10 (n:=l.length) gd;have:(Cj l).length<=l.length * 1550:=EP λx hx=>LE (h x hx);have:l.length * 1550<=64 * 1550:=Cc _ hl;unfold wrE;simp only[AR];have:mf1.length=3:=rfl;omega
structure Wz (b B:Nat) (w w':World):Prop where
 os:w'.os=w.os
 tape:w'.tape=w.tape
 output:w'.output=w.output
 size:w.heap.size<=w'.heap.size
 blk:∀k,k<w.heap.size->k<B->k≠b->w'.heap[k]? = w.heap[k]?
 oth:∀(k:Nat) (o:Obj),w.heap[k]? = some o->(∀arr f,o≠.cells arr 5 f)->k≠b->w'.heap[k]? = some o
section
variable {b B:Nat} {u w w':World}
theorem Wz.refl (b B w):Wz b B w w:=⟨rfl,rfl,rfl,AD _,λ_ _ _ _=>rfl,λ_ _ h _ _=>h⟩
theorem Wz.trans (h:Wz b B u w)(k:Wz b B w w'):Wz b B u w':=
 ⟨k.os.trans h.os,k.tape.trans h.tape,k.output.trans h.output,AS h.size k.size,λi hi hb G=>(k.blk i (AV hi h.size) hb G).trans (h.blk i hi hb G),λi o ha G hb=>k.oth i o (h.oth i o ha G hb) G hb⟩
theorem Wz.of (h:Below w.heap.size w w'):Wz b B w w':=
 ⟨h.os,h.tape,h.output,h.size,λk hk _ _=>h.block k hk,λk _ ha _ _=>(h.block k (EX.1 ha).1).trans ha⟩
theorem Wz.ofOth (h:Oth b w w'):Wz b B w w':=
 ⟨h.os,h.tape,h.output,h.size,λk hk _ G=>h.block k hk G,λk _ ha _ G=>(h.block k (EX.1 ha).1 G).trans ha⟩
theorem Wz.drew (h:Wz b B u w):Wz b B u w.drew:=⟨h.os,h.tape,h.output,h.size,h.blk,h.oth⟩
theorem Wz.set (h:Wz b B u w)(j x):Wz b B u (w.setCell (gX b j) x):=h.trans (.ofOth ((Oth.refl b w).set j x))
theorem Wz.below (h:Wz b B w w'){B0}(h1:B0<=b)(h2:B0<=B)(h3:B0<=w.heap.size):Below B0 w w':=⟨h.os,h.tape,h.output,h.size,λk hk=>h.blk k gd gd gd⟩
theorem Wz.grown {n v xs}(ho:w.ownsRow B 5 1 v n xs)(hg:w.grownBy w' v.ownBlock):Wz b B w w':=by
 refine⟨hg.os,hg.tape,hg.output,hg.size,λk hk hb _=>?_,λk o ha I _=>?_⟩
 .refine hg.block k hk λq=>?_;have:=(ho.lt k q.symm).1;omega
 refine(hg.block k (EX.1 ha).1 λq=>?_).trans ha;rcases ho.2 with ⟨rfl,_⟩|⟨g,cap,cur,rfl,_,G,_⟩
 .cases q
 simp only[Value.ownBlock]at q;injection q with q;subst q;rw[ha]at G;injection G with G;exact I _ _ G
theorem BoxT.wz {k cs t}(h:BoxT w k cs t)(hb:Wz b B w w')(hk:k≠b)(hne:t≠5):BoxT w' k cs t:=by
 obtain⟨arr,ha⟩:=h.ty;have G:w'.heap[k]? = w.heap[k]?:=(hb.oth k _ ha (λ_ _ q=>hne (by injection q)) hk).trans ha.symm;exact⟨⟨λj v hj=>(DE (w:=w) (a:=gX k j) G).trans (h.bx.cell j v hj),λj hj=>(EY (w:=w) (a:=gX k j) G).trans (h.bx.free j hj),AV h.bx.z hb.size⟩,arr,G.trans ha⟩
end
structure WB (w:World) (b B:Nat) (A:Option Addr) (c:Nat) (l:List UInt8):Prop where
 bx:BoxT w b [.slice A l.length c] 180
 le:B<=w.heap.size
 own:w.ownsRow B 5 1 (.slice A l.length c) l.length (AO l)
section
variable {b B c:Nat} {u w w':World} {A:Option Addr} {l:List UInt8}
theorem WB.keep (h:WB w b B A c l)(hb:Below w.heap.size w w'):WB w' b B A c l:=⟨h.bx.keep hb,AS h.le hb.size,Ag h.own hb⟩
theorem WB.drew (h:WB w b B A c l):WB w.drew b B A c l:=h.keep ((AC _ w).drew)
theorem WB.c0 (h:WB w b B A c l):w.cell? (gX b 0)=some (.slice A l.length c):=h.bx.bx.cell 0 _ rfl
theorem WB.z (h:WB w b B A c l):b<w.heap.size:=h.bx.bx.z
theorem WB.put (h:WB w b B A c l){p w8 g cap}(hown:w8.ownsRow B 5 1 (.slice (gY g 0) (l.length+p.length) cap) (l.length+p.length) (AO l++AO p))(hg:w.grownBy w8 (Value.slice A l.length c).ownBlock):
 w8.cell? (gX b 0)=some (.slice A l.length c)/\w8.frozen? ⟨b,0,none⟩=false/\WB (w8.setCell (gX b 0) (.slice (gY g 0) (l.length+p.length) cap)) b B (gY g 0) cap (l++p)/\Wz b B w (w8.setCell (gX b 0) (.slice (gY g 0) (l.length+p.length) cap)):=by
 have bx:=h.bx.grown h.own hg gm;have e1:(l++p).length=l.length+p.length:=AR;have:=hg.size;have:=h.le;refine⟨bx.bx.cell 0 _ rfl,bx.bx.free 0 gj,⟨?_,gt,?_⟩,(Wz.grown h.own hg).set 0 _⟩
 .rw[e1];exact bx.set (j:=0) _ rfl
 rw[e1,CH];exact Ge hown bx gm 0 _
end
def Gk (w:World) (b B:Nat) (l:List UInt8) (e:Ending) (w':World):Prop:=
 e = .returned (.tuple #[])/\(∃A c,WB w' b B A c l)/\Wz b B w w'
theorem Gl {w:World}{B g n c p}(h:w.ownsRow B 5 1 (.slice (gY g 0) n c) p.length (AO p)):∀j u,(AO p)[j]? = some u->w.cell? ((⟨g,0,none⟩:Addr).add j)=some u:=λj u hj=>by
 have G:j<(AO p).length:=(FP.1 hj).1;rw[Bt]at G;rw[DF,BL];obtain⟨A,c',q,hr⟩:=Rd.of_own h;injection q with q1 q2 q3;obtain⟨b,off,e,hb,hc⟩:=hr.at_ gd;rw[<-q1]at e;injection e with e;injection e with e1 e2;subst e1 e2;have:=hc j u hj;rw[BL]at this;exact this
theorem WB.puts {w b B c A l}(h:WB w b B A c l){p w8 v}(hb:Buf B (l++p) v w8)(hg:w.grownBy w8 (Value.slice A l.length c).ownBlock):
 ∃A2 c2,v = .slice A2 (l++p).length c2/\w8.cell? (gX b 0)=some (.slice A l.length c)/\w8.frozen? ⟨b,0,none⟩=false/\WB (w8.setCell (gX b 0) (.slice A2 (l++p).length c2)) b B A2 c2 (l++p)/\Wz b B w (w8.setCell (gX b 0) (.slice A2 (l++p).length c2)):=by
 obtain⟨A2,c2,rfl⟩:=BK hb;have bx:=h.bx.grown h.own hg gm;have:=hg.size;have:=h.le;exact⟨A2,c2,rfl,bx.bx.cell 0 _ rfl,bx.bx.free 0 gj,⟨bx.set (j:=0) _ rfl,gt,Ge hb bx gm 0 _⟩,(Wz.grown h.own hg).set 0 _⟩
theorem Uo {ops rest o a Q w B l v}(hgd:o.guard=none)(s x)(ho:o.op = .call { callee:=.builtin .append,args:=#[s,x],argTypes:=#[55,9] })(hs:a.eval s=v)(hb:Buf B l v w)(st)(hx:a.eval x = .string st)(hlen:l.length+st.size<=1000000)(hB:B<=w.heap.size)(h:∀v' w',Buf B (l++st.data.toList) v' w'->w.grownBy w' v.ownBlock->wpList prog ops Q rest (a.put o.dst v') w'):wpList prog ops Q (o::rest) a w:=by
 obtain⟨ti,T,G,I,O⟩:=DZ As.inf;refine Go.Lib.wpList_append_own_string _ hgd s x 55 9 ho B 5 ti underlying55 underlying9 T G I O v _ _ hs hb st hx gn gd hB λv' w' h1 h2 _=>h v' w' ?_ h2;unfold Buf;rw[AR,CH];exact h1
def stV (s:St):List Value:=[io s.rows.toInt,io s.nulls.toInt,.bool s.som,.bool s.high,ip s.mn.kind.toNat,io s.mn.n.toInt,.string s.mn.s,ip s.mx.kind.toNat,io s.mx.n.toInt,.string s.mx.s]
def BH (l:List St):List Value:=l.flatMap stV
theorem LH (s):(stV s).length=10:=rfl
theorem Ja (s):∀u∈stV s,u.oneCell'=true:=by
 intro u hu;simp only[stV,List.mem_cons,Bf,or_false]at hu;rcases hu with rfl|rfl|rfl|rfl|rfl|rfl|rfl|rfl|rfl|rfl<;>rfl
theorem Uq (l):∀u∈BH l,u.oneCell'=true:=by
 intro u hu;obtain⟨s,_,hs⟩:=List.mem_flatMap.1 hu;exact Ja s u hs
structure El where
 p:En
 A:Option Addr
 c:Nat
instance:Inhabited El:=⟨⟨default,none,0⟩⟩
def elV (x:El):List Value:=[.string x.p.name,.bool x.p.keys,il x.p.seq.toNat,io x.p.rows.toInt,im x.p.sch.toNat,.slice x.A x.p.stats.length x.c]
def Ax (l:List El):List Value:=l.flatMap elV
theorem Fa (x):(elV x).length=6:=rfl
theorem Fb (x):∀u∈elV x,u.oneCell'=true:=by
 intro u hu;simp only[elV,List.mem_cons,Bf,or_false]at hu;rcases hu with rfl|rfl|rfl|rfl|rfl|rfl<;>rfl
section
variable {w w':World} {B n c:Nat} {A:Option Addr}
theorem Rd.stA {l}(h:Rd w B 10 A n c (BH l)){i}(hi:i<l.length):∃b off,A=some ⟨b,off,none⟩/\b<B/\∀s,l.getD i default=s ->
 (w.cell? (gX b (off+i * 10))=some (io s.rows.toInt)/\w.cell? (gX b (off+i * 10+1))=some (io s.nulls.toInt)/\w.cell? (gX b (off+i * 10+2))=some (.bool s.som)/\w.cell? (gX b (off+i * 10+3))=some (.bool s.high) /\
 w.cell? (gX b (off+i * 10+4))=some (ip s.mn.kind.toNat)/\w.cell? (gX b (off+i * 10+5))=some (io s.mn.n.toInt)/\w.cell? (gX b (off+i * 10+6))=some (.string s.mn.s) /\
 w.cell? (gX b (off+i * 10+7))=some (ip s.mx.kind.toNat)/\w.cell? (gX b (off+i * 10+8))=some (io s.mx.n.toInt)/\w.cell? (gX b (off+i * 10+9))=some (.string s.mx.s)):=by
 obtain⟨b,off,rfl,hb,hc⟩:=h.el stV 10 LH hi gd;refine⟨b,off,rfl,hb,λs hs=>?_⟩;subst hs;exact⟨hc 0 _ rfl,hc 1 _ rfl,hc 2 _ rfl,hc 3 _ rfl,hc 4 _ rfl,hc 5 _ rfl,hc 6 _ rfl,hc 7 _ rfl,hc 8 _ rfl,hc 9 _ rfl⟩
theorem Rd.elA {l}(h:Rd w B 6 A n c (Ax l)){i}(hi:i<l.length):∃b off,A=some ⟨b,off,none⟩/\b<B/\∀x,l.getD i default=x ->
 (w.cell? (gX b (off+i * 6))=some (.string x.p.name)/\w.cell? (gX b (off+i * 6+1))=some (.bool x.p.keys)/\w.cell? (gX b (off+i * 6+2))=some (il x.p.seq.toNat) /\
 w.cell? (gX b (off+i * 6+3))=some (io x.p.rows.toInt)/\w.cell? (gX b (off+i * 6+4))=some (im x.p.sch.toNat)/\w.cell? (gX b (off+i * 6+5))=some (.slice x.A x.p.stats.length x.c)):=by
 obtain⟨b,off,rfl,hb,hc⟩:=h.el elV 6 Fa hi gd;refine⟨b,off,rfl,hb,λs hs=>?_⟩;subst hs;exact⟨hc 0 _ rfl,hc 1 _ rfl,hc 2 _ rfl,hc 3 _ rfl,hc 4 _ rfl,hc 5 _ rfl⟩
end
structure EnR (w:World) (B:Nat) (A:Option Addr) (c:Nat) (l:List El):Prop where
 row:Rd w B 6 A l.length c (Ax l)
 ins:∀x∈l,Rd w B 10 x.A x.p.stats.length x.c (BH x.p.stats)
section
variable {w w':World} {B c:Nat} {A:Option Addr} {l:List El}
theorem EnR.below (h:EnR w B A c l)(hb:Below B w w'):EnR w' B A c l:=⟨h.row.below hb,λx hx=>(h.ins x hx).below hb⟩
end
theorem IR:STy prog 95 201 10 88 (.agg #[io 0,io 0,.bool false,.bool false,ip 0,io 0,.string ByteArray.empty,ip 0,io 0,.string ByteArray.empty]):=⟨underlying95,gh,rfl,gm,gm⟩
theorem E4:STy prog 46 97 6 72 (.agg #[.string ByteArray.empty,.bool false,il 0,io 0,im 0,ir]):=⟨underlying46,gh,rfl,gm,gm⟩
theorem Rd.wz {w w' B b sz n c A xs}(h:Rd w B sz A n c xs)(hz:Wz b B w w')(hb:B<=b)(hle:B<=w.heap.size):Rd w' B sz A n c xs:=h.below (hz.below hb (AD _) hle)
theorem Ut {c k n}(hk:c.kind.toNat=k)(hn:c.n=n):C9 c=if 3<k then 10 else if (k≠3/\emp c.s=false)\/(k≠1/\k≠2/\n≠0)\/(k=2/\n≠0/\n≠1) then 1 else if 64<c.s.size then 5 else 0:=by unfold C9;rw[hk,hn]
theorem Uu {s}(h:emp s=true):s.size=0:=by rw[L7]at h;simpa using h
def DM (k:Nat) (n:Int) (s:ByteArray):Bool:=decide (k=0)&&(decide (n=0)&&decide (s.toList=[]))
theorem Oq (c):isZ c=DM c.kind.toNat c.n.toInt c.s:=by
 unfold isZ DM;rw[show decide (c.s.size=0)=decide (c.s.toList=[])by
  rw[Cx];simp only[BI];rw[Lib.toList_data,Lib.size_eq];exact List.length_eq_zero_iff]
def Hr (rw nl:Int) (som high b1 b2 z1 z2:Bool) (k1 k2:Nat):Bool:=
 if nl<0 then false else if rw<nl then false else if 256<rw then false else if som=true then (if nl<rw then (if high=true then b1&&(b2&&decide (k1=k2)) else b1&&z2) else false) else (if nl<rw then false else !high&&(z1&&z2))
theorem Ot (s):Dh s=Hr s.rows.toInt s.nulls.toInt s.som s.high (CZ s.mn) (CZ s.mx) (DM s.mn.kind.toNat s.mn.n.toInt s.mn.s) (DM s.mx.kind.toNat s.mx.n.toInt s.mx.s) s.mn.kind.toNat s.mx.kind.toNat:=by
 rw[<-Oq,<-Oq];unfold Dh Hr;generalize s.rows.toInt=rw;generalize s.nulls.toInt=nl;by_cases h1:nl<0
 .rw[AJ h1,AG (show ¬ 0<=nl by omega)];rfl
 rw[AE h1,AF (show 0<=nl by omega)];by_cases h2:rw<nl
 .rw[AJ h2,AG (show ¬nl<=rw by omega)];simp
 rw[AE h2,AF (show nl<=rw by omega)];by_cases h3:256<rw
 .rw[AJ h3,AG (show ¬rw<=256 by omega)];simp
 rw[AE h3,AF (show rw<=256 by omega)];simp only[CV];cases s.som with
 | true=>
   simp only[if_true];by_cases h4:nl<rw
   .rw[AJ h4,AF h4];cases s.high<;>simp
   rw[AE h4,AG h4];simp
 | false=>
   simp only[EK,if_false];by_cases h4:nl<rw
   .rw[AJ h4,AG (show ¬nl=rw by omega)];simp
   rw[AE h4,AF (show nl=rw by omega)];simp
theorem W0 (w B l v s)(hb:Buf B l v w)(hB:B<=w.heap.size)(hl:l.length+s.size<=900000):
 Calls prog 155 #[v,.string s] w λe w'=>∃v',e = .returned v'/\Buf B (l++tx s) v' w'/\Bz B w w':=by
 have Z:IntKind.u64.wrap (s.size:Int)=(s.size:Int):=by rw[BU];omega
 have aa:(s.size:Int) % 18446744073709551616=(s.size:Int):=gd;have:=Dg s.size gd;go_enter func155,ntmps155;go_wp2_with fail
 refine(Eg (s.size:Int) w gd gd).mono ?_;rintro e w1 ⟨v1,rfl,hown1,hb1⟩;rw[BM]at hown1;obtain⟨A1,c1,rfl⟩:=BK hown1;have G:Buf B l v w1:=Ag hb hb1;have ab:=Ay hown1;have T:B<=w1.heap.size:=AS hB hb1.size;clear Z aa;go_wp2_with (first
  | (at_builtin;refine FZ rfl (.tmp 5) (.tmp 9) rfl rfl G A1 _ c1 _ rfl ab gd T ?_;intro v2 w2 I V;have ad:=AS T V.size;have:(l++Var.put s.size).length=l.length+(Var.put s.size).length:=AR)
  | (at_builtin;refine OJ rfl (.tmp 10) (.tmp 11) rfl rfl I s rfl gd ad ?_;intro v3 w3 O ae))
 go_ret;refine⟨v3,rfl,?_,(Bz.of hb1).trans (V.trans ae)⟩;unfold tx;rw[<-Az];exact O
theorem W2 (l):(EO l).length<=l.length:=by
 unfold EO;split
 .unfold rdS;simp only[];exact AS (OS _ _ _ _) (AS (GC _ _ _) (GC _ _ _))
 simp
theorem W3 {t:List UInt8}(h:t.take 3≠tf1):((⟨(t.take 3).toArray⟩:ByteArray).toList==[84,70,49])=false:=by
 rw[EM,AQ];intro q;exact h (by simpa [tf1]using q)
theorem dN.oth {w w' B b sc nc sA nA ss ns}(h:dN w B sA sc ss nA nc ns)(ho:Oth b w w')(hb:b<B):dN w' B sA sc ss nA nc ns:=
 ⟨FT h.sown ho hb,λs hs=>FT (h.sin s hs) ho hb,FT h.nown ho hb,λs hs=>FT (h.nin s hs) ho hb⟩
structure GO (w0:World) (B0 br bt:Nat) (P:Nat->Prop) (B2:Nat) (A:Option Addr) (c:Nat) (l:List UInt8) (e:Bool) (sA:Option Addr) (sc:Nat) (ss:List Sl) (nA:Option Addr) (nc:Nat) (ns:List Nl) (cur:Nat) (wr:World):Prop where
 rd:dS wr br P A c l e
 tx:dH wr bt [.slice sA ss.length sc,.slice nA ns.length nc,il cur]
 hS:dN wr (bt+1) sA sc ss none 0 []
 hN:dN wr B2 none 0 [] nA nc ns
 rb:dH wr B0 [ir,ir,il 0]
 bel:Below w0.heap.size w0 wr
 o1:B0<br
 o2:br<bt
 o3:w0.heap.size<=B0
 o4:bt<B2
 o5:B2<=wr.heap.size
section
variable {w0 wr w2 w4 w7 w8:World} {B0 br bt B2 c sc nc cur:Nat} {P:Nat->Prop} {e:Bool} {A sA nA:Option Addr} {l:List UInt8} {ss:List Sl} {ns:List Nl}
theorem GO.go (h:GO w0 B0 br bt P B2 A c l e sA sc ss nA nc ns cur wr){A2 c2 l2 e2}(hr:dS w7 br P A2 c2 l2 e2)(ho:Oth br wr w7):GO w0 B0 br bt P B2 A2 c2 l2 e2 sA sc ss nA nc ns cur w7:=by
 have h1:=h.o1;have h2:=h.o2;have h3:=h.o3;have h4:=h.o4;exact⟨hr,h.tx.oth ho gd,h.hS.oth ho gd,h.hN.oth ho gd,h.rb.oth ho gd,h.bel.trans ((ho.below (Ad h.rd.z)).mono gd),h1,h2,h3,h4,AS h.o5 ho.size⟩
theorem GO.call (h:GO w0 B0 br bt P B2 A c l e sA sc ss nA nc ns cur wr)(hb:Below wr.heap.size wr w7):GO w0 B0 br bt P B2 A c l e sA sc ss nA nc ns cur w7:=h.go (h.rd.keep hb) (.of hb)
theorem GO.why (h:GO w0 B0 br bt P B2 A c l e sA sc ss nA nc ns cur wr)(e2):GO w0 B0 br bt P B2 A c l e2 sA sc ss nA nc ns cur (wr.setCell (gX br 1) (.bool e2)):=h.go (h.rd.set1 e2) ((Oth.refl br wr).set 1 _)
theorem GO.addS (h:GO w0 B0 br bt P B2 A c l e sA sc ss nA nc ns cur wr){id fs F A2 fc c2 l2 v}(hb:Below wr.heap.size wr w4)(hF:w4.ownsRow wr.heap.size 89 4 (.slice F fs.length fc) fs.length (AZ fs))(hL:w4.ownsRow wr.heap.size 5 1 (.slice A2 l2.length c2) l2.length (AO l2))(hown:w8.ownsRow (bt+1) 33 2 v (ss.length+1) (CX ss++slV ⟨id,fs,F,fc⟩))(hg:w4.grownBy w8 (Value.slice sA ss.length sc).ownBlock)(hP:∀k,wr.heap.size<=k->P k):
 ∃g cap,v = .slice (gY g 0) (ss.length+1) cap/\w8.cell? (gX bt 0)=some (.slice sA ss.length sc)/\w8.frozen? ⟨bt,0,none⟩=false/\w8.cell? (gX br 0)=some (.slice A l.length c)/\w8.frozen? ⟨br,0,none⟩=false /\
  GO w0 B0 br bt P B2 A2 c2 l2 e (gY g 0) cap (ss++[⟨id,fs,F,fc⟩]) nA nc ns cur ((w8.setCell (gX bt 0) (.slice (gY g 0) (ss.length+1) cap)).setCell (gX br 0) (.slice A2 l2.length c2)):=by
 have h1:=h.o1;have h2:=h.o2;have h3:=h.o3;have h4:=h.o4;have:=h.o5;have:=h.rd.z;have:=h.tx.z;have H4:=h.call hb;obtain⟨g,cap,rfl,S8⟩:=H4.hS.snocS (s:=⟨id,fs,F,fc⟩) (B4 hF gd) hown hg;have N8:dN w8 B2 none 0 [] nA nc ns:=⟨Av _ _ _ _,gj,DJ H4.hN.nown H4.hS.sown hg gm,λx hx=>DJ (H4.hN.nin x hx) H4.hS.sown hg gm⟩;have L8:=DJ hL H4.hS.sown hg gm;have G:Below (bt+1) w4 w8:=Au (AC _ _) (AD _) H4.hS.sown hg H4.tx.z;have T8:=H4.tx.keep G (E9 _);have R8:=H4.rb.keep G gd;have I:br<bt+1:=gd;have c0:=(G.cell (p:=gX br 0) I).trans H4.rd.c0;have:=(G.cell (p:=gX br 1) I).trans H4.rd.c1;have f0:=(G.frozen (p:=gX br 0) I).trans H4.rd.f0;have:=(G.frozen (p:=gX br 1) I).trans H4.rd.f1;have O:br≠bt:=gd;have:bt≠br:=gd;have:=hb.size;have:=G.size;have e1:(ss++[(⟨id,fs,F,fc⟩:Sl)]).length=ss.length+1:=gj;have LL:=B6 (B6 L8 (a:=gX bt 0) (show bt<wr.heap.size by omega) (.slice (gY g 0) (ss.length+1) cap)) (a:=gX br 0) (show br<wr.heap.size by omega) (.slice A2 l2.length c2);refine⟨g,cap,rfl,T8.cell 0 _ rfl,T8.free 0 gj,c0,f0,?_,?_,?_,?_,?_,?_,h1,h2,h3,h4,?_⟩
 .exact⟨by go_simp,by go_simp,by go_simp,by go_simp,gt,.own LL hP,h.rd.nP⟩
 .rw[e1];exact(T8.set (j:=0) _ rfl).else (p:=gX br 0) O _
 .exact(S8.set (p:=gX bt 0) (E9 _) _).set (p:=gX br 0) I _
 .exact(N8.set (p:=gX bt 0) h4 _).set (p:=gX br 0) (show br<B2 by omega) _
 .exact(R8.else (p:=gX bt 0) (show bt≠B0 by omega) _).else (p:=gX br 0) (show br≠B0 by omega) _
 .exact((H4.bel.trans (G.mono gd)).setCell (p:=gX bt 0) (show w0.heap.size<=bt by omega) _).setCell (p:=gX br 0) (show w0.heap.size<=br by omega) _
 simp;omega
theorem GO.addN (h:GO w0 B0 br bt P B2 A c l e sA sc ss nA nc ns cur w4){p F fc b3 g cap cs3}(hF:w4.ownsRow B2 9 1 (.slice F p.ms.length fc) p.ms.length (AY p.ms))(h3x:dH w4 b3 cs3)(hne3:∀k,(Value.slice nA ns.length nc).ownBlock=some k->k≠b3)(hPB:∀k,P k->k<B2)(hPt:¬P bt)(hown:w8.ownsRow B2 43 7 (.slice (gY g 0) (ns.length+1) cap) (ns.length+1) (BQ ns++nlV ⟨p,F,fc⟩))(hg:w4.grownBy w8 (Value.slice nA ns.length nc).ownBlock):
 dH w8 b3 cs3/\w8.cell? (gX bt 1)=some (.slice nA ns.length nc)/\w8.frozen? ⟨bt,1,none⟩=false/\w8.cell? (gX bt 2)=some (il cur)/\w8.frozen? ⟨bt,2,none⟩=false /\
  GO w0 B0 br bt P B2 A c l e sA sc ss (gY g 0) cap (ns++[⟨p,F,fc⟩]) p.id.toNat ((w8.setCell (gX bt 1) (.slice (gY g 0) (ns.length+1) cap)).setCell (gX bt 2) (il p.id.toNat)):=by
 have h1:=h.o1;have h2:=h.o2;have h3:=h.o3;have h4:=h.o4;have h5:=h.o5;obtain⟨g',T,q,N8⟩:=h.hN.snocN (s:=⟨p,F,fc⟩) hF hown hg;injection q with q1 q2 q3;injection q1 with q1;injection q1 with q1;subst q1 q3;have S8:dN w8 (bt+1) sA sc ss none 0 []:=⟨DJ h.hS.sown h.hN.nown hg gm,λx hx=>DJ (h.hS.sin x hx) h.hN.nown hg gm,Av _ _ _ _,gj⟩;have G:Below B2 w4 w8:=Au (AC _ _) (AD _) h.hN.nown hg h5;have T8:=h.tx.keep G h4;have R8:=h.rb.keep G gd;have K8:=h.rd.keepB G gd λk hk _=>hPB k hk;have I:w8.heap[b3]? = w4.heap[b3]?:=hg.block b3 h3x.z λq=>hne3 b3 q.symm rfl;have e1:(ns++[(⟨p,F,fc⟩:Nl)]).length=ns.length+1:=gj;have O:br≠bt:=gd;refine⟨⟨λj u hj=>(DE (w:=w4) (a:=gX b3 j) I).trans (h3x.cell j u hj),λj hj=>(EY (w:=w4) (a:=gX b3 j) I).trans (h3x.free j hj),AV h3x.z hg.size⟩,T8.cell 1 _ rfl,T8.free 1 gj,T8.cell 2 _ rfl,T8.free 2 gj,?_,?_,?_,?_,?_,?_,h1,h2,h3,h4,?_⟩
 .exact(K8.elsewhere (p:=gX bt 1) O hPt _).elsewhere (p:=gX bt 2) O hPt _
 .rw[e1];exact(T8.set (j:=1) _ rfl).set (j:=2) _ rfl
 .exact(S8.set (p:=gX bt 1) (E9 _) _).set (p:=gX bt 2) (E9 _) _
 .exact(N8.set (p:=gX bt 1) h4 _).set (p:=gX bt 2) h4 _
 .exact(R8.else (p:=gX bt 1) (show bt≠B0 by omega) _).else (p:=gX bt 2) (show bt≠B0 by omega) _
 .exact((h.bel.trans (G.mono gd)).setCell (p:=gX bt 1) (show w0.heap.size<=bt by omega) _).setCell (p:=gX bt 2) (show w0.heap.size<=bt by omega) _
 have:=G.size;simp;omega
theorem GO.all (h:GO w0 B0 br bt P B2 A c l e sA sc ss nA nc ns cur wr):dN wr (bt+1) sA sc ss nA nc ns:=⟨h.hS.sown,h.hS.sin,B4 h.hN.nown h.o4,λx hx=>B4 (h.hN.nin x hx) h.o4⟩
end
def W4 (w0:World) (B0 br bt:Nat) (P:Nat->Prop) (R:List Ps×List UInt8×Bool) (nv:Value) (wr:World):Prop:=
 ∃(m:Nat) (A:Option Addr) (c:Nat) (l:List UInt8) (e:Bool) (sA:Option Addr) (sc:Nat) (ss:List Sl),nv = il m/\m<18446744073709551616/\(e=false->ss.length<=16)/\l.length<=1000000/\ga (oS m l e (ss.map dK)=R)/\GO w0 B0 br bt P (bt+1) A c l e sA sc ss none 0 [] 0 wr
def W5 (w0:World) (B0 br bt:Nat) (P:Nat->Prop) (B2:Nat) (sA:Option Addr) (sc:Nat) (ss:List Sl) (R:List Sn×List UInt8×Bool) (nv:Value) (wr:World):Prop:=
 ∃(m:Nat) (A:Option Addr) (c:Nat) (l:List UInt8) (e:Bool) (nA:Option Addr) (nc:Nat) (ns:List Nl),nv = il m/\m<18446744073709551616/\(e=false->ns.length<=32)/\ga (oN m l e (ns.map dL)=R)/\GO w0 B0 br bt P B2 A c l e sA sc ss nA nc ns (ER (ns.map dL)) wr
section
variable {l:List UInt8} {ss:List Ps} {ns:List Sn} {bad:Bool}
theorem W6 (h1:(BT l).isSome=false):Cs l=101:=by unfold Cs;rw[AJ h1]
theorem Pj (h1:(BT l).isSome=true)(h2:(BO l).length<3\/(BO l).take 3≠tf1):Cs l=100:=by unfold Cs;rw[AE (by rw[h1];simp),AJ h2]
theorem LX (h1:(BT l).isSome=true)(h2:¬((BO l).length<3\/(BO l).take 3≠tf1))(ho:opn ((BO l).drop 3)=(ss,ns,bad))(hx:bad=true\/B7 ss ns (ER ns)=false\/wrS ss ns≠l):Cs l=102:=by
 unfold Cs;rw[AE (by rw[h1];simp),AE h2,ho,AJ hx]
theorem Pk (h1:(BT l).isSome=true)(h2:¬((BO l).length<3\/(BO l).take 3≠tf1))(ho:opn ((BO l).drop 3)=(ss,ns,bad))(hx:¬(bad=true\/B7 ss ns (ER ns)=false\/wrS ss ns≠l)):Cs l=0:=by
 unfold Cs;rw[AE (by rw[h1];simp),AE h2,ho,AE hx]
end
theorem W7 {w w' l bad sA nA sc nc ss ns}(h:Cs l=0)(ho:opn ((BO l).drop 3)=(ss.map dK,ns.map dL,bad))(hO:dN w' w.heap.size sA sc ss nA nc ns)(hb:Below w.heap.size w w'):
 GD w l (.returned (.tuple #[.agg #[.slice sA ss.length sc,.slice nA ns.length nc,il ((ER (ns.map dL):Nat):Int)],io 0])) w':=by
 unfold GD;rw[AJ h,ho];exact⟨sA,sc,ss,nA,nc,ns,rfl,hO,rfl,rfl,hb⟩
