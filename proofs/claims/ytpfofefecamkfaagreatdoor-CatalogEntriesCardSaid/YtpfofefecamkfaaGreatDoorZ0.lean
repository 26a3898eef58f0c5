/- For CatalogEntries. -/
import Derived.WalkKit
import Derived.Below
import Derived.WalkSpells
import Derived.WalkLawsBesides
import Derived.Deep.Draws
import Derived.Deep.AppendLies
import Derived.Maps.AppendAt
import Derived.BigQuiet
import Derived.Deep.QuietTactic
import Derived.Deep.RegionWith
import Derived.Deep.RegionHeld
import Derived.Handy
import Derived.Lib.DecodeN
import Derived.Lib.RuneCountTail
import Derived.Laws.RangeAny
import Derived.Test.YtpfofefecamkfaaGreatDoorProg
import Derived.Still
import Derived.StillTail
import Derived.Deep.LoopGhost
import Derived.Lib.SliceRun
import Derived.Shelf.Abstract
import Derived.Laws.ResultCell
import Derived.Deep.OwnRows
import Derived.Deep.CutRange
import Derived.Deep.RegionHeld3
import Init.Data.List.Lemmas
namespace Go.Proofs.YtpfofefecamkfaaGreatDoor
open Go.RowKit Proofs.Tryz
set_option maxRecDepth 100000
set_option maxHeartbeats 16000000
set_option linter.all false
def ga (p:Prop):Prop:=p
theorem ga.o {p:Prop}(h:ga p):p:=h
theorem gd {p:Prop}(h:p:=by omega):p:=h
theorem gh {p:Prop}(h:p:=by kernel_rfl):p:=h
theorem gj {p:Prop}(h:p:=by simp):p:=h
theorem gm {p:Prop}(h:p:=by decide):p:=h
theorem gn {p:Prop}(h:p:=by unfold maxLen;omega):p:=h
theorem gq {p:Prop}(h:p:=by unfold maxLen<;>omega):p:=h
theorem gt {p:Prop}(h:p:=by simp;omega):p:=h
theorem gu {p:Prop}(h:p:=by cases q):p:=h
theorem gw {p:Prop}(h:p:=by decide +kernel):p:=h
theorem gz {p:Prop}(h:p:=by rw[h];simp):p:=h
theorem gE (p:Prop)[Decidable p](h:p:=by omega):decide p=true:=decide_eq_true h
theorem gF (p:Prop)[Decidable p](h:¬p:=by omega):decide p=false:=decide_eq_false h
theorem gG (a b:Int)(h:a<b:=by omega):decide (a<b)=true:=decide_eq_true h
theorem gH (a b:Int)(h:¬a<b:=by omega):decide (a<b)=false:=decide_eq_false h
theorem gI (a b:Int)(h:a<=b:=by omega):decide (a<=b)=true:=decide_eq_true h
theorem gJ (a b:Int)(h:¬a<=b:=by omega):decide (a<=b)=false:=decide_eq_false h
theorem gK (a b:Int)(h:a=b:=by omega):(a==b)=true:=beq_iff_eq.2 h
theorem gL (a b:Int)(h:a≠b:=by omega):(a==b)=false:=beq_eq_false_iff_ne.2 h
theorem gM (a b:Int)(h:a≠b:=by omega):(a != b)=true:=bne_iff_ne.2 h
theorem gO (a b:Int)(h:a=b:=by omega):(a != b)=false:=by rw[bne_eq_false_iff_eq];exact h
theorem gR {p0 p1:Prop}(a0:p0)(a1:p1):ga (p0/\p1):=(⟨a0,a1⟩:p0/\p1)
theorem gS {p0 p1 p2:Prop}(a0:p0)(a1:p1)(a2:p2):ga (p0/\p1/\p2):=(⟨a0,a1,a2⟩:p0/\p1/\p2)
theorem gT {p0 p1 p2 p3:Prop}(a0:p0)(a1:p1)(a2:p2)(a3:p3):ga (p0/\p1/\p2/\p3):=(⟨a0,a1,a2,a3⟩:p0/\p1/\p2/\p3)
theorem gU {p0 p1 p2 p3 p4:Prop}(a0:p0)(a1:p1)(a2:p2)(a3:p3)(a4:p4):ga (p0/\p1/\p2/\p3/\p4):=(⟨a0,a1,a2,a3,a4⟩:p0/\p1/\p2/\p3/\p4)
theorem gV {p0 p1 p2 p3 p4 p5:Prop}(a0:p0)(a1:p1)(a2:p2)(a3:p3)(a4:p4)(a5:p5):ga (p0/\p1/\p2/\p3/\p4/\p5):=(⟨a0,a1,a2,a3,a4,a5⟩:p0/\p1/\p2/\p3/\p4/\p5)
theorem gW {p0 p1 p2 p3 p4 p5 p6:Prop}(a0:p0)(a1:p1)(a2:p2)(a3:p3)(a4:p4)(a5:p5)(a6:p6):ga (p0/\p1/\p2/\p3/\p4/\p5/\p6):=(⟨a0,a1,a2,a3,a4,a5,a6⟩:p0/\p1/\p2/\p3/\p4/\p5/\p6)
abbrev gX (b:Nat) (j:Nat):Addr:=⟨b,j,none⟩
abbrev gY (b:Nat) (j:Nat):Option Addr:=some ⟨b,j,none⟩
theorem hI (w o):Below w.heap.size w (w.alloc o):=(Below.refl w.heap.size w).alloc (Nat.le_refl _) o
theorem ia {α:Type}(x:α):∃y,x=y:=⟨_,rfl⟩
theorem ib {α:Type}(x:α):∃y,y=x:=⟨_,rfl⟩
abbrev il (x:Int):Value:=.int .u64 x
abbrev im (x:Int):Value:=.int .u32 x
abbrev io (x:Int):Value:=.int .i64 x
abbrev ip (x:Int):Value:=.int .u8 x
abbrev iq (b:Nat) (j:Nat):Value:=.pointer (some ⟨b,j,none⟩)
abbrev ir:Value:=.slice none 0 0
section
variable {P : Program} {md : Region.Mode} {ops : Array Oper} {Q : Exit->Act->World->Prop} {S : World->Prop}
theorem tK (i){oi v fuel listed l2 a a2 w}(h : wpAnyH P md ops Q S fuel l2 a2 w)(hS : S w:= by assumption)(hi : ops[i]? = some oi:= by rfl)(hc : (Region.noSelect ops&&(Region.free md ops listed i&&(Region.ready md ops listed).contains i))=true:= by kernel_rfl)(hQ : ∀c a w,Q (.panic c) (a.put oi.dst v) w->Q (.panic c) a w:= by exact λ_ _ _ h=>h)(hg : Region.wanted oi (yielded ops a.tmps)=true:= by rfl)(hy : ∀w',S w'->(execOp a.eval oi).run P w' = .ok (.value v) w':= by(intro w' hSw; (repeat (obtain⟨_,hSw⟩:= (hSw:_/\_))); go_simp; first|done|with_reducible rfl))(ha : a.put oi.dst v=a2:= by((try simp only[Act.put,List.setIfInBounds_toArray,List.set_cons_zero,List.set_cons_succ]); rfl))(hl : listed.setIfInBounds i true=l2:= by((try simp only[List.setIfInBounds_toArray,List.set_cons_zero,List.set_cons_succ]); rfl)): wpAnyH P md ops Q S (fuel+1) listed a w:= by
  simp only[Bool.and_eq_true]at hc;exact wpAnyH_take hi hc.1 hc.2.1 hc.2.2 hQ (Or.inl ⟨hg,hy⟩) hS (by rw[ha,hl]; exact h)
theorem ij (i){oi v fuel listed a w}(hy:∀x,S x->(execOp a.eval oi).run P x = .ok (.value v) x)(h:wpAnyH P md ops Q S fuel (listed.setIfInBounds i true) (a.put oi.dst v) w)(hS:S w:=by assumption)(hi:ops[i]? = some oi:=by rfl)(h1:Region.noSelect ops=true:=by kernel_rfl)(h2:Region.free md ops listed i=true:=by kernel_rfl)(h3:(Region.ready md ops listed).contains i=true:=by kernel_rfl)(hQ:∀c a w,Q (.panic c) (a.put oi.dst v) w->Q (.panic c) a w:=by exact λ_ _ _ h=>h)(hg:Region.wanted oi (yielded ops a.tmps)=true:=by rfl):wpAnyH P md ops Q S (fuel+1) listed a w:=wpAnyH_take hi h1 h2 h3 hQ (Or.inl ⟨hg,hy⟩) hS h
theorem rD (i){o fuel listed a w}(h : ∀K' : Act->World->Prop,Shut (∀a w,S w->(S w->wpAnyH P md ops Q S fuel (listed.setIfInBounds i true) a w)->K' a w)->if Region.wanted o (yielded ops a.tmps)=true then Oper.wp P o a w K' Q else K' (a.put o.dst undef) w)(ho : ops[i]? = some o:= by rfl)(hr : Region.ready md ops listed=[i]:= by kernel_rfl): wpAnyH P md ops Q S (fuel+1) listed a w:= wpAnyH_ready hr (by simp) (.cons ho h .nil)
end
abbrev dP (A : Option Addr) (n c : Nat) (B : Option Addr) (m d k : Nat) : Array Value:= #[.slice A n c,.slice B m d,il k]
abbrev Aj : Array Value:= #[il 0,il 0,il 0,il 0,il 0,im 0,ir]
abbrev Aa : Array Value:= #[ir,ir,il 0]
abbrev B3 : Array Value:= #[im 0,ir]
abbrev dR (i : UInt32) (A : Option Addr) (n c : Nat) : Array Value:= #[im i.toNat,.slice A n c]
theorem AK {α:Type}{l:List α}{i}{a:α}:l.toArray.setIfInBounds i a=(l.set i a).toArray:=List.setIfInBounds_toArray ..
theorem AH {α:Type}{a b:α}{l:List α}:(a::l).set 0 b=b::l:=rfl
theorem AI {α:Type}{a b:α}{l:List α}{n}:(a::l).set (n+1) b=a::l.set n b:=rfl
def Bf:=@List.not_mem_nil
def AU:=@Nat.zero_le
def AV:=@Nat.lt_of_lt_of_le
def AS:=@Nat.le_trans
def AC:=@Below.refl
def AD:=@Nat.le_refl
def AJ:=@if_pos
def AE:=@if_neg
def AF:=@decide_eq_true
def Ad:=@Nat.le_of_lt
def AW:=@bodyPost_ret
def Ae:=@List.length_map
def BW:=@List.getD_eq_getElem?_getD
def BF:=@List.getElem?_eq_getElem
def DY:=@List.getElem?_map
def AG:=@decide_eq_false
def AR:=@List.length_append
def Cv:=@List.map_append
def Am:=@bne_iff_ne
def EW:=@Option.some.inj
def EX:=@Array.getElem?_eq_some_iff
def DE:=@World.cell?_of_block
def EY:=@World.frozen?_of_block
def FP:=@List.getElem?_eq_some_iff
def DF:=@Addr.add_lit
def BL:=@Nat.zero_add
def DZ:=@info_parts
def Cw:=@step_append_lies
def BU:=@IntKind.wrap_u64
def BM:=@Int.toNat_natCast
def Az:=@List.append_assoc
def BN:=@List.length_take
def Cc:=@Nat.mul_le_mul_right
def E8:=@List.take_length
def AQ:=@beq_eq_false_iff_ne
def Ap:=@beq_iff_eq
def Cx:=@Bool.eq_iff_iff
def BI:=@decide_eq_true_eq
def CV:=@Bool.true_and
def EK:=@Bool.false_eq_true
def Da:=@List.all_eq_true
def BX:=@Bool.and_eq_true
def F5:=@Nat.eq_zero_or_pos
def It:=@List.getElem?_append_right
def Av:=@World.ownsRow_nil
def CN:=@List.nil_append
def Gw:=@World.cell?_setCell_other
def Cy:=@Nat.ne_of_lt
def Cz:=@Nat.le_of_eq
def B6:=@ownsRow_setCell_below
def F6:=@List.length_drop
def CF:=@List.take_of_length_le
def EL:=@List.take_succ_cons
def E9:=@Nat.lt_succ_self
def Bg:=@List.length_cons
def BS:=@List.mem_singleton
def CG:=@List.mem_map
def EM:=@ByteArray.toList_eq
def EZ:=@List.mem_iff_getElem
def F7:=@IntWalk.wrap64_in
def GQ:=@Bool.not_eq_true'
def Cn:=@List.take_add_one
def Ea:=@List.length_singleton
def Fl:=@run_underlying
def Fm:=@List.eq_nil_of_length_eq_zero
def Bv:=@List.map_cons
def Bw:=@List.map_nil
def DQ:=@DataW.trod_int
def GR:=@Bool.and_eq_true_iff
structure ii (p:Prop):Prop where
 o:p
theorem ie {p q:Prop}(h:q)(e:ii q->p:=by intro h;(try simp only[Act.put,AK,AH,AI]);exact h.1):p:=e ⟨h⟩
theorem AB {p:Prop}(h:p):ga p:=h
structure Rd (w:World) (B sz:Nat) (A:Option Addr) (n c:Nat) (xs:List Value):Prop where
 len:xs.length=n * sz
 le:n<=c
 cap:c<=maxLen
 at_:0<n->∃b off,A=some ⟨b,off,none⟩/\b<B/\∀j u,xs[j]? = some u->w.cell? ⟨b,off+j,none⟩=some u
section
variable {w w':World} {B B' sz n c:Nat} {A:Option Addr} {xs:List Value}
theorem Rd.keep (h:Rd w B sz A n c xs)(hk:∀p:Addr,p.block<B->w'.cell? p=w.cell? p):Rd w' B sz A n c xs:=
 ⟨h.len,h.le,h.cap,λhn=>by
  obtain⟨b,off,e,hb,hc⟩:=h.at_ hn;exact⟨b,off,e,hb,λj u hu=>(hk ⟨b,off+j,none⟩ hb).trans (hc j u hu)⟩⟩
theorem Rd.more (h:Rd w B sz A n c xs)(hB:B<=B'):Rd w B' sz A n c xs:=
 ⟨h.len,h.le,h.cap,λhn=>by
  obtain⟨b,off,e,hb,hc⟩:=h.at_ hn;exact⟨b,off,e,AV hb hB,hc⟩⟩
theorem Rd.below (h:Rd w B sz A n c xs)(hb:Below B w w'):Rd w' B sz A n c xs:=h.keep λ_ hp=>hb.cell hp
theorem Rd.below' (h:Rd w B sz A n c xs)(hb:Below B' w w')(hB:B<=B'):Rd w' B sz A n c xs:=h.keep λ_ hp=>hb.cell (AV hp hB)
theorem Rd.alloc (h:Rd w B sz A n c xs)(hB:B<=w.heap.size)(o):Rd (w.alloc o) B sz A n c xs:=h.below ((AC B w).alloc hB o)
theorem Rd.drew (h:Rd w B sz A n c xs):Rd w.drew B sz A n c xs:=h.keep λ_ _=>rfl
theorem Rd.cellAt (h:Rd w B sz A n c xs){k}(hk:k<xs.length):∃b off,A=some ⟨b,off,none⟩/\b<B/\w.cell? (gX b (off+k))=some xs[k]:=by
 have hn:0<n:=by
  rcases F5 n with h0|h0
  .have:=h.len;rw[h0]at this;omega
  exact h0
 obtain⟨b,off,e,hb,hc⟩:=h.at_ hn;exact⟨b,off,e,hb,hc k _ (BF hk)⟩
theorem Rd.nil (w B sz):Rd w B sz none 0 0 []:=⟨gj,AD _,AU _,λh=>absurd h gd⟩
theorem Rd.of_own {base e v}(h:w.ownsRow base e sz v n xs):∃A c,v = .slice A n c/\Rd w w.heap.size sz A n c xs:=by
 rcases h.2 with ⟨rfl,rfl⟩|⟨g,cap,cur,rfl,hb,hg,G,hm,O,I⟩
 .have hx:xs=[]:=Fm (by simpa using h.1);subst hx;exact⟨none,0,rfl,Rd.nil _ _ _⟩
 refine⟨some ⟨g,0,none⟩,cap,rfl,h.1,G,hm,λ_=>⟨g,0,rfl,(EX.1 hg).1,λj u hu=>?_⟩⟩;have:=World.ownsRow.cells (w:=w) h (g:=g) rfl j u hu;simpa [DF]using this
theorem Rd.lit (w:World)(e cs)(hl:cs.size=n * sz)(hm:n<=maxLen):
 Rd (w.alloc (.cells cs e)) (w.heap.size+1) sz (gY w.heap.size 0) n n cs.toList:=
 ⟨by simpa using hl,AD _,hm,λ_=>⟨w.heap.size,0,rfl,gd,λj u hu=>by
  rw[cell_of_row _ _ _ cs e (0,0) (heap_alloc_new w _)];simpa using hu⟩⟩
theorem Rd.pre (h:Rd w B sz A n c xs){hi}(h2:hi<=n):Rd w B sz A hi c (xs.take (hi * sz)):=
 ⟨by rw[BN,h.len];exact Nat.min_eq_left (Cc _ h2),AS h2 h.le,h.cap,λhn=>by
  obtain⟨b,off,e,hb,hc⟩:=h.at_ gd;refine⟨b,off,e,hb,λj u hu=>hc j u ?_⟩;have hj:j<hi * sz:=by
   have:=(FP.1 hu).1;simp at this;omega
  rwa [List.getElem?_take,AJ hj]at hu⟩
theorem Rd.cut (h:Rd w B sz A n c xs){lo hi}(h1:lo<=hi)(h2:hi<=n):
 Rd w B sz (if c=lo then A else A.map (·.add (lo * sz))) (hi-lo) (c-lo) ((xs.drop (lo * sz)).take ((hi-lo) * sz)):=by
 refine⟨?_,by have:=h.le;omega,by have:=h.cap;omega,λhn=>?_⟩
 .rw[BN,F6,h.len,<-Nat.sub_mul];exact Nat.min_eq_left (Cc _ gd)
 obtain⟨b,off,rfl,hb,hc⟩:=h.at_ gd;rw[AE (by have:=h.le;omega)];refine⟨b,off+lo * sz,by simp[DF],hb,λj u hu=>?_⟩;rw[Nat.add_assoc];refine hc _ u ?_;have hj:j<(hi-lo) * sz:=by
  have:=(FP.1 hu).1;simp at this;omega
 rw[List.getElem?_take,AJ hj,List.getElem?_drop]at hu;exact hu
end
structure STy (P:Program) (t e:TypeId) (sz by_:Nat) (z:Value):Prop where
 ut:P.underlying t=some (.slice e)
 inf:(P.info? e).map (λi=>(i.zero,i.size,i.bytes))=some (some z,sz,by_)
 zs:z.cells.size=sz
 pos:0<sz
 bpos:0<by_
section
variable {P:Program} {t e:TypeId} {sz by_:Nat} {z:Value}
theorem Ev (T:STy P t e sz by_ z)(A n c k h)(hi:Nat)(he:h=(hi:Int))(h2:hi<=c)(w):
 (Instr.slice t (.slice A n c) none (some (.int k h)) none).run P w = .ok (.slice A hi c) w:=by
 obtain⟨i,G,hz,hs,hb⟩:=DZ T.inf;subst he;have e0:A.map (λx=>x.add 0)=A:=by cases A<;>simp[Addr.add]
 simp[Instr.slice,Fl T.ut,Instr.sliceBounds,run_sliceBound,sizeOf,typeInfo,G,h2,e0]
theorem I9 (T:STy P t e sz by_ z)(A n c k l)(lo:Nat)(he:l=(lo:Int))(h1:lo<=n)(_h2:n<=c)(w):
 (Instr.slice t (.slice A n c) (some (.int k l)) none none).run P w = .ok (.slice (if c=lo then A else A.map (·.add (lo * sz))) (n-lo) (c-lo)) w:=by
 obtain⟨i,G,hz,hs,hb⟩:=DZ T.inf;subst he;simp[Instr.slice,Fl T.ut,Instr.sliceBounds,run_sliceBound,sizeOf,typeInfo,G,h1,hs]
theorem EN (T:STy P t e sz by_ z)(A n c k h)(hi:Nat)(he:h=(hi:Int))(h2:hi<=c)(w):
 (Instr.sliceAt t (.slice A n c) none (some (.int k h)) none).run P w = .ok (.slice A hi c) w:=by
 simp only[Instr.sliceAt,Sem.run_bind,Fl T.ut,Result.andThen];exact Ev T A n c k h hi he h2 w
theorem Iu (T:STy P t e sz by_ z)(A n c k l)(lo:Nat)(he:l=(lo:Int))(h1:lo<=n)(h2:n<=c)(w):
 (Instr.sliceAt t (.slice A n c) (some (.int k l)) none none).run P w = .ok (.slice (if c=lo then A else A.map (·.add (lo * sz))) (n-lo) (c-lo)) w:=by
 simp only[Instr.sliceAt,Sem.run_bind,Fl T.ut,Result.andThen];exact I9 T A n c k l lo he h1 h2 w
end
section
variable {P:Program} (w:World)
theorem Sh {t e sz by_ z}(T:STy P t e sz by_ z)(base ty v n xs)(hown:w.ownsRow base e sz v n xs)(B A m c news)(hr:Rd w B sz A m c news)(h1:∀u∈news,u.oneCell'=true)(hbytes:(n+m) * by_<=140737488355328)(hbase:base<=w.heap.size):
 ∃v' w',(Builtin.append_ #[t,t] ty #[v,.slice A m c]).run P w = .ok v' w'/\w'.ownsRow base e sz v' (n+m) (xs++news)/\w.grownBy w' v.ownBlock /\
  (v'.ownBlock=v.ownBlock\/v'.ownBlock=some w.heap.size):=by
 obtain⟨i,hi,hz,hs,hb⟩:=DZ T.inf;have O:n+m<=maxLen:=by
  have:=Nat.le_mul_of_pos_right (n+m) T.bpos;simp only[maxLen];omega
 rcases A with _|ad
 .have hm:m=0:=by
   rcases F5 m with h0|h0
   .exact h0
   obtain⟨b,off,h,_⟩:=hr.at_ h0;cases h
  subst hm;have hn:news=[]:=Fm (by simpa using hr.len);subst hn;refine⟨v,w,?_,by simpa using hown,World.grownBy.refl w _,.inl rfl⟩;rcases hown.2 with ⟨rfl,rfl⟩|⟨g,cap,cur,rfl,_,_,V,_⟩
  .simp[Builtin.append_,Fl T.ut,sizeOf,typeInfo,hi,Builtin.lenOf,Builtin.firstCells]
  simp[Builtin.append_,Fl T.ut,sizeOf,typeInfo,hi,Builtin.lenOf,Builtin.firstCells,V,storeCells]
 have G:∀j u,news[j]? = some u->w.cell? (ad.add j)=some u:=by
  intro j u hu;rcases F5 m with h0|h0
  .subst h0;have hn:news=[]:=Fm (by simpa using hr.len);subst hn;simp at hu
  obtain⟨b,off,h,_,hc⟩:=hr.at_ h0;injection h with h;subst h;rw[DF];exact hc j u hu
 obtain⟨v',w',I,h2,h3,_,h5⟩:=run_append_own_at (P:=P) w base t ty e i z sz by_ T.ut hi hz hs hb T.zs T.pos v n xs hown ad m c news hr.len G h1 O hbytes hbase;exact⟨v',w',I,h2,h3,h5⟩
theorem Mm {t e sz by_ z}{o:Oper}{a K Q}(T:STy P t e sz by_ z)(s x)(ho:o.op = .call { callee:=.builtin .append,args:=#[s,x],argTypes:=#[t,t] })(base v n xs)(hs:a.eval s=v)(hown:w.ownsRow base e sz v n xs)(B A m c news)(hx:a.eval x = .slice A m c)(hr:Rd w B sz A m c news)(h1:∀u∈news,u.oneCell'=true)(hbytes:(n+m) * by_<=140737488355328)(hbase:base<=w.heap.size)(h:∀v' w',w'.ownsRow base e sz v' (n+m) (xs++news)->w.grownBy w' v.ownBlock->(v'.ownBlock=v.ownBlock\/v'.ownBlock=some w.heap.size)->K (a.put o.dst v') w'):o.wp P a w K Q:=by
 obtain⟨v',w',G,h2,h3,h4⟩:=Sh (P:=P) w T base o.type v n xs hown B A m c news hr h1 hbytes hbase;unfold Oper.wp execOp;simp only[ho,resolve,invoke,builtin,Sem.run_bind,Sem.run_pure,Result.andThen_ok,List.map_toArray,Bv,Bw,hs,hx,G];exact h v' w' h2 h3 h4
theorem Aw {t e sz by_ z ops rest o a Q}(T:STy P t e sz by_ z)(hgd:o.guard=none)(s x)(ho:o.op = .call { callee:=.builtin .append,args:=#[s,x],argTypes:=#[t,t] })(base v n xs)(hs:a.eval s=v)(hown:w.ownsRow base e sz v n xs)(B A m c news)(hx:a.eval x = .slice A m c)(hr:Rd w B sz A m c news)(h1:∀u∈news,u.oneCell'=true)(hbytes:(n+m) * by_<=140737488355328)(hbase:base<=w.heap.size)(h:∀v' w',w'.ownsRow base e sz v' (n+m) (xs++news)->w.grownBy w' v.ownBlock->(v'.ownBlock=v.ownBlock\/v'.ownBlock=some w.heap.size)->wpList P ops Q rest (a.put o.dst v') w'):
 wpList P ops Q (o::rest) a w:=
 wpList_plain hgd λ_ hK=>Mm w T s x ho base v n xs hs hown B A m c news hx hr h1 hbytes hbase λv' w' h2 h3 h4=>hK _ _ (h v' w' h2 h3 h4)
end
theorem Au {B base w0 w w' v n xs e sz}(hb:Below B w0 w)(hB:B<=base)(hown:w.ownsRow base e sz v n xs)(hg:w.grownBy w' v.ownBlock)(hz:B<=w.heap.size):Below B w0 w':=
 hb.grown hg hz λk hk=>AS hB (hown.lt k hk).1
theorem Ag {base w w' v n xs e sz}(h:w.ownsRow base e sz v n xs)(hb:Below w.heap.size w w'):w'.ownsRow base e sz v n xs:=
 h.kept (row:=none) ⟨hb.os,hb.tape,hb.output,hb.size,λk hk _=>hb.block k hk⟩ (by cases hv:v.ownBlock<;>simp)
theorem B4 {base base'}{w:World}{v n xs e sz}(h:w.ownsRow base e sz v n xs)(hb:base'<=base):w.ownsRow base' e sz v n xs:=
 ⟨h.1,h.2.imp id λ⟨g,cap,cur,hv,hg,r⟩=>⟨g,cap,cur,hv,AS hb hg,r⟩⟩
theorem Ew (w:World){base}(e sz n cs)(hb:base<=w.heap.size)(hm:n<=maxLen)(hs:cs.size=n * sz):
 (w.alloc (.cells cs e)).ownsRow base e sz (.slice (gY w.heap.size 0) n n) n cs.toList:=
 World.ownsRow_lit w cs n hb hm hs
theorem BY {B w w'}(h:Below B w.drew w'):Below B w w':=(AC B w).drew.trans h
theorem AM {B w0 w w'}(h:Below B w0 w)(hB:B<=w.heap.size)(hc:Below w.heap.size w w'):Below B w0 w':=h.trans (hc.mono hB)
def GT (w:World) (t:TypeId) (sz n:Nat) (xs:List Value) (e:Ending) (w':World):Prop:=
 ∃v,e = .returned v/\w'.ownsRow w.heap.size t sz v n xs/\Below w.heap.size w w'
theorem Rd.none_ {w B sz n c xs}(h:Rd w B sz none n c xs):n=0/\xs=[]:=by
 rcases F5 n with h0|h0
 .subst h0;exact⟨rfl,Fm (by simpa using h.len)⟩
 obtain⟨b,off,e,_⟩:=h.at_ h0;cases e
def DG (b:UInt8):Value:=ip b.toNat
def AO (l:List UInt8):List Value:=l.map DG
theorem Bt (l):(AO l).length=l.length:=by simp[AO]
theorem CH (a b):AO (a++b)=AO a++AO b:=by simp[AO]
theorem Bb (l):∀u∈AO l,u.oneCell'=true:=by
 intro u hu;obtain⟨_,_,rfl⟩:=CG.1 hu;rfl
theorem Si (l k)(hk:k<l.length):(AO l)[k]? = some (DG l[k]):=by simp[AO,hk]
theorem Iv (k n):∀u∈#[Value.int k n].toList,u.oneCell'=true:=by
 intro u hu;have:u = .int k n:=by simpa using hu
 subst this;rfl
theorem Eb {P}(w){src dst e B n c A l}(hs:P.underlying src=some (.slice e))(he:P.underlying e=some (.int .u8))(hd:P.underlying dst=some .string)(h:Rd w B 1 A n c (AO l)):(convert src dst (.slice A n c)).run P w = .ok (.string ⟨l.toArray⟩) w:=by
 have hn:n=l.length:=by have:=h.len;simp[AO]at this;omega
 subst hn;rcases F5 l.length with h0|h0
 .have hl:l=[]:=Fm h0;subst hl;rcases A with _|ad
  .rw[run_convert_bytes_string w src dst e _ _ c hs he hd];rfl
  exact run_convert_bytes_back w src dst e ad c [] hs he hd (λj hj=>absurd hj gj)
 obtain⟨b,off,rfl,_,hc⟩:=h.at_ h0;refine run_convert_bytes_back w src dst e _ c l hs he hd (λj hj=>?_);rw[DF];exact hc j _ (Si l j hj)
theorem As:STy prog 55 5 1 1 (ip 0):=⟨underlying55,gh,rfl,gm,gm⟩
def EA (w:World) (l:List UInt8) (e:Ending) (w':World):Prop:=
 ∃v,e = .returned v/\w'.ownsRow w.heap.size 5 1 v l.length (AO l)/\Below w.heap.size w w'
def FQ (w:World) (v:Value) (e:Ending) (w':World):Prop:=e = .returned v/\Below w.heap.size w w'
section
open Go.Lib
def sgn (s:ByteArray) (p:Nat):Nat:=(Utf8.decode s p).1
def wid (s:ByteArray) (p:Nat):Nat:=(Utf8.decode s p).2
theorem F8 (s p)(h:p<s.size):0<wid s p:=Lib.decode_width_pos s p h
def Dk (s:ByteArray) (p:Nat):Bool:= !(decide (sgn s p=65533)&&decide (wid s p=1))
def FR (s:ByteArray) (p:Nat):Bool:=decide (97<=sgn s p/\sgn s p<=122\/sgn s p=95\/127<sgn s p\/48<=sgn s p/\sgn s p<=57/\0<p)
def Bx (s:ByteArray) (q:Nat->Bool):Nat->Nat->Bool
 | 0,_=>true
 | b+1,p=>if p<s.size then q p&&Bx s q b (p+wid s p) else true
theorem GV (s q b p)(h:¬p<s.size):Bx s q b p=true:=by
 cases b with
 | zero=>rfl
 | succ b=>simp[Bx,h]
theorem Dm (s q b p)(h:p<s.size)(hb:s.size<=p+b)(hq:q p=false):Bx s q b p=false:=by
 cases b with
 | zero=>omega
 | succ b=>simp[Bx,h,hq]
theorem EB (s q b p)(h:p<s.size)(hb:s.size<=p+b)(hq:q p=true):∃b',Bx s q b p=Bx s q b' (p+wid s p)/\s.size<=p+wid s p+b':=by
 have:=F8 s p h;cases b with
 | zero=>omega
 | succ b=>exact⟨b,by simp[Bx,h,hq],gd⟩
def Fn (s:ByteArray):Bool:=Bx s (Dk s) s.size 0
def Fo (s:ByteArray):Bool:=Bx s (FR s) s.size 0
def named (s:ByteArray):Bool:=decide (1<=s.size)&&decide (s.size<=16)&&Fn s&&Fo s
theorem Mq (n b0 b1 b2 b3)(h:b0<128):decodeN n b0 b1 b2 b3=(b0,1):=by unfold decodeN;rw[AJ h]
theorem Sj (n b0 b1 b2 b3)(h0:b0<256)(h1:b1<256)(h2:b2<256)(h:(decodeN n b0 b1 b2 b3).1=65533):
 (decodeN n b0 b1 b2 b3).2=1/\¬(2<n/\b0=239/\b1=191/\b2=189)\/(decodeN n b0 b1 b2 b3).2=3/\2<n/\b0=239/\b1=191/\b2=189:=by
 by_cases hq:2<n/\b0=239/\b1=191/\b2=189
 .refine .inr ⟨?_,hq⟩;obtain⟨G,rfl,rfl,rfl⟩:=hq;unfold decodeN;simp[G,show 1<n by omega]
 refine .inl ⟨?_,hq⟩;generalize hr:decodeN n b0 b1 b2 b3=r at *;unfold decodeN at hr
 repeat' split at hr
 all_goals (subst hr;dsimp only at h ⊢;try omega)
def dW (a b:ByteArray):Bool:=decide (b.size<=a.size)&&((a.extract 0 b.size).toList==b.toList)
theorem Sk (t):dW t ⟨#[239,191,189]⟩=decide (2<t.size/\(t.get! 0).toNat=239/\(t.get! 1).toNat=191/\(t.get! 2).toNat=189):=by
 unfold dW;have e0:(ByteArray.mk #[239,191,189]).toList=[239,191,189]:=by rw[Lib.toList_data]
 have e1:(ByteArray.mk #[239,191,189]).size=3:=rfl;have e2:(t.extract 0 3).toList=t.data.toList.take 3:=by
  rw[Lib.toList_data,ByteArray.data_extract,Array.toList_extract];simp
 rw[e0,e1,e2,<-Lib.getD_get!',<-Lib.getD_get!',<-Lib.getD_get!',Lib.size_eq];generalize t.data.toList=L;rcases L with _|⟨a,_|⟨b,_|⟨c,L⟩⟩⟩
 .simp
 .simp
 .simp
 rw[Cx];simp[<-UInt8.toNat_inj]
theorem Sm (s p)(_h:p<s.size):(decide (sgn s p=65533) && !dW (s.extract p s.size) ⟨#[239,191,189]⟩) = !Dk s p:=by
 rw[Sk];have e:=Lib.tail_decode s p 0;rw[Lib.decode_at]at e;simp only[BL,Nat.sub_zero,Nat.add_zero]at e;have hs:sgn s p=(Utf8.decode s p).1:=rfl;have hw:wid s p=(Utf8.decode s p).2:=rfl;rw[<-e]at hs hw;unfold Dk;rw[hs,hw];have h0:=((s.extract p s.size).get! 0).toNat_lt;have h1:=((s.extract p s.size).get! 1).toNat_lt;have h2:=((s.extract p s.size).get! 2).toNat_lt;have h3:=Sj (s.extract p s.size).size ((s.extract p s.size).get! 0).toNat ((s.extract p s.size).get! 1).toNat ((s.extract p s.size).get! 2).toNat ((s.extract p s.size).get! 3).toNat h0 h1 h2;clear e hs hw h0 h1 h2;generalize s.extract p s.size=t at *;generalize decodeN t.size (t.get! 0).toNat (t.get! 1).toNat (t.get! 2).toNat (t.get! 3).toNat=r at *;generalize hb:decide (2<t.size/\(t.get! 0).toNat=239/\(t.get! 1).toNat=191/\(t.get! 2).toNat=189)=b;by_cases h:r.1=65533
 .rcases h3 h with ⟨a,q⟩|⟨a,q⟩
  .have:b=false:=by rw[<-hb];exact AG q
   simp[h,a,this]
  have:b=true:=by rw[<-hb];exact AF q
  simp[h,a,this]
 simp[h]
def Cls (k least base b0:Nat):Prop:=(k=2/\least=128/\base=192/\194<=b0/\b0<224)\/(k=3/\least=2048/\base=224/\224<=b0/\b0<240)\/(k=4/\least=65536/\base=240/\240<=b0/\b0<245)
def val (b:Nat->Nat) (n0:Nat):Nat->Nat
 | 0=>n0
 | j+1=>val b n0 j * 64+b (j+1)-128
theorem Mr (b n0):val b n0 1=n0 * 64+b 1-128:=rfl
theorem Mt (b n0):val b n0 2=(n0 * 64+b 1-128) * 64+b 2-128:=rfl
theorem Mu (b n0):val b n0 3=((n0 * 64+b 1-128) * 64+b 2-128) * 64+b 3-128:=rfl
section
open Go.Lib
variable {k least base n:Nat} {b:Nat->Nat}
theorem Sp (h0:b 0<256)(h:¬b 0<128)(h1:¬(194<=b 0/\b 0<245)):decodeN n (b 0) (b 1) (b 2) (b 3)=(65533,1):=by
 unfold decodeN;rw[AE h]
 repeat' split
 all_goals first|rfl|(exfalso;omega)
theorem KN (hc:Cls k least base (b 0))(h:n<k):decodeN n (b 0) (b 1) (b 2) (b 3)=(65533,1):=by
 unfold decodeN;rcases hc with ⟨rfl,rfl,rfl,h1,h2⟩|⟨rfl,rfl,rfl,h1,h2⟩|⟨rfl,rfl,rfl,h1,h2⟩<;>rw[AE gd]<;>(repeat' split)<;>first|rfl|(exfalso;omega)
theorem Gx (hc:Cls k least base (b 0))(j)(h1:1<=j)(h2:j<k)(hb:b j<256)(h:b j<128\/192<=b j):decodeN n (b 0) (b 1) (b 2) (b 3)=(65533,1):=by
 unfold decodeN;have hj:j=1\/j=2\/j=3:=by unfold Cls at hc;omega
 rcases hc with ⟨rfl,rfl,rfl,h3,h4⟩|⟨rfl,rfl,rfl,h3,h4⟩|⟨rfl,rfl,rfl,h3,h4⟩<;>rw[AE gd]<;>rcases hj with rfl|rfl|rfl<;>(repeat' split)<;>first|rfl|(exfalso;omega)
theorem KO (hc:Cls k least base (b 0))(hn:k<=n)(h:∀j,1<=j->j<k->128<=b j/\b j<192):
 decodeN n (b 0) (b 1) (b 2) (b 3)=if val b (b 0-base) (k-1)<least\/1114111<val b (b 0-base) (k-1)\/55296<=val b (b 0-base) (k-1)/\val b (b 0-base) (k-1)<57344 then (65533,1) else (val b (b 0-base) (k-1),k):=by
 rcases hc with ⟨rfl,rfl,rfl,h3,h4⟩|⟨rfl,rfl,rfl,h3,h4⟩|⟨rfl,rfl,rfl,h3,h4⟩
 .have q1:=h 1 gd gd;rw[show 2-1=1 from rfl,Mr];clear h;generalize b 0=x0 at *;generalize b 1=x1 at *;generalize b 2=x2 at *;generalize b 3=x3 at *;unfold decodeN;rw[AE gd,AJ gd];split<;>split<;>first|with_reducible rfl|(exfalso;omega)|(apply Prod.ext<;>simp only<;>omega)
 .have q1:=h 1 gd gd;have q2:=h 2 gd gd;rw[show 3-1=2 from rfl,Mt];clear h;generalize b 0=x0 at *;generalize b 1=x1 at *;generalize b 2=x2 at *;generalize b 3=x3 at *;unfold decodeN;rw[AE gd,AE gd,AJ gd];split<;>split<;>first|with_reducible rfl|(exfalso;omega)|(apply Prod.ext<;>simp only<;>omega)
 have q1:=h 1 gd gd;have q2:=h 2 gd gd;have:=h 3 gd gd;rw[show 4-1=3 from rfl,Mu];clear h;generalize b 0=x0 at *;generalize b 1=x1 at *;generalize b 2=x2 at *;generalize b 3=x3 at *;unfold decodeN;rw[AE gd,AE gd,AE gd,AJ gd];split<;>split<;>first|with_reducible rfl|(exfalso;omega)|(apply Prod.ext<;>simp only<;>omega)
theorem KP (hc:Cls k least base (b 0))(j)(h:∀i,1<=i->i<j+1->128<=b i/\b i<192)(hj:j<k):val b (b 0-base) j<2097152/\(j+1<k->val b (b 0-base) j<32768)/\val b (b 0-base) j<8388608:=by
 have G:j=0\/j=1\/j=2\/j=3:=by unfold Cls at hc;omega
 unfold Cls at hc;rcases G with rfl|rfl|rfl|rfl
 .show b 0-base<_/\(_->b 0-base<_)/\b 0-base<_;omega
 .have q1:=h 1 gd gd;rw[Mr];omega
 .have q1:=h 1 gd gd;have q2:=h 2 gd gd;rw[Mt];omega
 have q1:=h 1 gd gd;have q2:=h 2 gd gd;have:=h 3 gd gd;rw[Mu];omega
end
def byt (t:ByteArray) (j:Nat):Nat:=(t.get! j).toNat
theorem Dn (t j):byt t j<256:=(t.get! j).toNat_lt
theorem EC (t):Utf8.decode t 0=Lib.decodeN t.size (byt t 0) (byt t 1) (byt t 2) (byt t 3):=by
 rw[Lib.decode_at];simp[byt]
end
theorem Sq (w a b):Calls prog 236 #[.string a,.string b] w λe w'=>e = .returned (.bool (dW a b))/\w=w':=by
 by_cases h:b.size<=a.size
 .have t1:decide ((b.size:Int)<=(a.size:Int))=true:=AF (by exact_mod_cast h);have hp:dW a b=((a.extract 0 b.size).toList==b.toList):=by unfold dW;rw[AF h,CV]
  rw[hp];go_enter func236,ntmps236;go_wp2_with fail
  go_ret;exact⟨rfl,rfl⟩
 have t1:decide ((b.size:Int)<=(a.size:Int))=false:=AG (by exact_mod_cast h);have hp:dW a b=false:=by unfold dW;rw[AG h,Bool.false_and]
 rw[hp];go_enter func236,ntmps236;go_wp2_with fail
 go_ret;exact⟨rfl,rfl⟩
theorem Mv (w a b):Calls prog 199 #[.string a,.string b] w λe w'=>e = .returned (.bool (dW a b))/\w=w':=by
 go_enter func199,ntmps199;go_wp2_with fail
 refine(Sq w a b).mono ?_;rintro e w' ⟨rfl,rfl⟩;go_wp2_with fail
 go_ret;exact⟨rfl,rfl⟩
theorem clean (w s):Calls prog 151 #[.string s] w λe w'=>e = .returned (.bool (Fn s))/\∃pos,w'=w.iter s pos:=by
 go_enter func151,ntmps151;go_wp2_with fail
 go_loopw [3,4] (λ_ _ w'=>∃(pos b:Nat),w'=w.iter s pos/\ga (Bx s (Dk s) b pos=Fn s)/\s.size<=pos+b) (λ_ _ w'=>s.size-w'.iterPos w.heap.size);case atStart=>exact⟨0,s.size,rfl,AB rfl,gd⟩
 case round=>
  obtain⟨pos,b,rfl,hc,hb⟩:=hrel;by_cases hp:pos<s.size
  .have Z:∀ty,(Instr.next (iq w.heap.size 0) true ty).run prog (w.iter s pos) = .ok (.tuple #[.bool true,io pos,.int .i32 (sgn s pos:Int)]) (w.iter s (pos+wid s pos)):=λty=>run_next_any w s pos ty hp;have I:=Sm s pos hp;have:pos<=s.size:=Ad hp;have O:=hc.o;have T:=F8 s pos hp;cases hq:Dk s pos with
   | true=>
     rw[hq,Bool.not_true]at I;obtain⟨b',h1,h2⟩:=EB s _ b pos hp hb hq;rw[h1]at O;have HC:=AB O;have HM:=AB (show s.size-(pos+wid s pos)<s.size-pos by omega);clear h1 O hc hq T hb;by_cases G:sgn s pos=65533
     .have t1:((sgn s pos:Int)==65533)=true:=by rw[G];rfl
      rw[AF G,CV]at I;have V:=AB G;clear G;go_wp2_with (refine(Mv _ _ _).mono ?_;rintro e w' ⟨rfl,rfl⟩)
      go_roundw;case rel=>exact⟨_,b',rfl,HC,h2⟩
      case measure=>simpa using HM.o
     have t1:((sgn s pos:Int)==65533)=false:=by rw[AQ];exact λh=>G gd
     clear I;have V:=AB G;clear G;(go_wp2_with fail);go_roundw;case rel=>exact⟨_,b',rfl,HC,h2⟩
     case measure=>simpa using HM.o
   | false=>
     rw[hq,Bool.not_false]at I;rw[Dm s _ b pos hp hb hq]at O;have HC:=AB O;clear O hc hq T hb;rw[BX]at I;obtain⟨G,ab⟩:=I;have t1:((sgn s pos:Int)==65533)=true:=by rw[of_decide_eq_true G];rfl
     have V:=AB G;clear G;go_wp2_with (refine(Mv _ _ _).mono ?_;rintro e w' ⟨rfl,rfl⟩)
     go_ret;exact⟨by rw[<-HC.o];rfl,_,rfl⟩
  have Z:∀ty,(Instr.next (iq w.heap.size 0) true ty).run prog (w.iter s pos)=_:=λty=>run_next_end w s pos ty hp;have he:=hc.o;rw[GV s _ b pos hp]at he;have HE:=AB he;clear he;go_wp2_with fail
  go_ret;exact⟨by rw[<-HE.o];rfl,_,rfl⟩
theorem Iw (s p c)(h:sgn s p=c):FR s p=decide (97<=c/\c<=122\/c=95\/127<c\/48<=c/\c<=57/\0<p):=by subst h;rfl
theorem Ss (t v k c)(h:Utf8.decode t 0=(v,k))(hc:c = !(decide (v=65533)&&decide (k=1))):
 (Value.tuple #[io (sgn t 0:Int),io (wid t 0:Int),.bool (Dk t 0)]) = .tuple #[io v,io k,.bool c]:=by
 unfold Dk sgn wid;rw[h,hc]
theorem KQ (b n0 j):val b n0 (j+1)=val b n0 j * 64+b (j+1)-128:=rfl
theorem IA (t j):((t.get! j).toNat:Int)=(byt t j:Int):=rfl
theorem IB (t:ByteArray):∀k (h:k<t.size),t[k]'h=t.get! k:=λk h=>(by cases t with|mk d=>exact(getElem!_pos d k h).symm)
def Bd (t:ByteArray) (e:Ending):Prop:=e = .returned (.tuple #[io (sgn t 0:Int),io (wid t 0:Int),.bool (Dk t 0)])
theorem Bd.of (t v k c)(h:Utf8.decode t 0=(v,k))(hc:c = !(decide (v=65533)&&decide (k=1))):Bd t (.returned (.tuple #[io v,io k,.bool c])):=by
 unfold Bd;rw[Ss t v k c h hc]
theorem Bd.bad (t)(h:Utf8.decode t 0=(65533,1)):Bd t (.returned (.tuple #[io 65533,io 1,.bool false])):=Bd.of t 65533 1 false h rfl
theorem Co (i k:Nat)(h:i<k):k-(intOf (io ((i:Int)+1))).toNat<k-(intOf (io i)).toNat:=by simp[intOf];omega
theorem Sx (w t b0)(hb0:b0=byt t 0)(hc:b0<128)(ht:0<t.size):
 Calls prog 185 #[.string t] w λe w'=>Bd t e/\w=w':=by
 have:=IB t;have:=IA t;have:b0<256:=by rw[hb0];exact Dn t 0
 have G:=AB hb0;have:(byt t 0:Int)=(b0:Int):=by rw[<-hb0]
 have:=gG b0 128;have HC:=AB hc;clear hb0 hc;go_enter func185,ntmps185;go_wp2_with fail
 go_ret3;refine⟨Bd.of t b0 1 true ?_ ?_,rfl⟩
 .rw[EC,<-G.o];exact Mq _ _ _ _ _ HC.o
 have:=HC.o;rw[AG (show ¬b0=65533 by omega)];rfl
theorem Sy (w t b0)(hb0:b0=byt t 0)(hc:128<=b0/\b0<194\/245<=b0)(ht:0<t.size):
 Calls prog 185 #[.string t] w λe w'=>Bd t e/\w=w':=by
 have:=IB t;have:=IA t;have:b0<256:=by rw[hb0];exact Dn t 0
 have:=AB hb0;have:(byt t 0:Int)=(b0:Int):=by rw[<-hb0]
 have:=gH b0 128;have hd:=AB (show Utf8.decode t 0=(65533,1)by rw[EC];exact Sp (b:=byt t) (Dn t 0) (by rw[<-hb0];omega) (by rw[<-hb0];omega));rcases hc with hc|hc
 .have s1:=gJ 194 b0;have s2:=gJ 224 b0;have s3:=gJ 240 b0;clear hb0 hc;go_enter func185,ntmps185;go_wp2_with fail
  go_ret3;exact⟨Bd.bad t hd.o,rfl⟩
 have s1:=gI 194 b0;have s2:=gH b0 224;have s3:=gI 224 b0;have:=gH b0 240;have:=gI 240 b0;have:=gH b0 245;clear hb0 hc;go_enter func185,ntmps185;go_wp2_with fail
 go_ret3;exact⟨Bd.bad t hd.o,rfl⟩
def Ed (a b:Value):Prop:= ∀k,a.ownBlock=some k->b.ownBlock≠some k
theorem Ed.symm {a b}(h:Ed a b):Ed b a:=λk h1 h2=>h k h2 h1
theorem Ed.app {w:World}{a a' b base e sz n xs}(h:Ed a b)(hb:w.ownsRow base e sz b n xs)(h':a'.ownBlock=a.ownBlock\/a'.ownBlock=some w.heap.size):Ed a' b:=by
 intro k hk G;rcases h' with h1|h1
 .exact h k (h1▸hk) G
 rw[h1]at hk;injection hk with hk;have:=(hb.lt k G).2;omega
theorem Ed.kept {w w':World}{a b base e sz n xs}(h:Ed a b)(hb:w.ownsRow base e sz b n xs)(hg:w.grownBy w' a.ownBlock):w'.ownsRow base e sz b n xs:=
 hb.kept hg (by
  cases hv:b.ownBlock with
  | none=>exact .inl rfl
  | some k=>exact .inr λh2=>h k h2.symm hv)
structure Fd where
 id:UInt32
 name:ByteArray
 kind:UInt8
 need:Bool
abbrev fDV (f : Fd) : Array Value:= #[im f.id.toNat,.string f.name,ip f.kind.toNat,.bool f.need]
instance:Inhabited Fd:=⟨⟨0,ByteArray.empty,0,false⟩⟩
def fdV (f:Fd):List Value:=[im f.id.toNat,.string f.name,ip f.kind.toNat,.bool f.need]
def AZ (l:List Fd):List Value:=l.flatMap fdV
theorem Gy (f):(fdV f).length=4:=rfl
theorem Ix (f l):AZ (f::l)=fdV f++AZ l:=rfl
theorem KR (a b):AZ (a++b)=AZ a++AZ b:=by simp[AZ]
theorem Iy (l):(AZ l).length=l.length * 4:=by
 induction l with
 | nil=>rfl
 | cons f l ih=>rw[Ix,AR,ih,Gy,Bg];omega
theorem T0 (l k j)(hk:k<l.length)(hj:j<4):(AZ l)[k * 4+j]? = (fdV l[k])[j]?:=by
 induction l generalizing k with
 | nil=>simp at hk
 | cons f l ih=>
   rw[Ix];cases k with
   | zero=>rw[List.getElem?_append_left (by rw[Gy];omega)];simp
   | succ k=>
     rw[It (by rw[Gy];omega),Gy,show(k+1) * 4+j-4=k * 4+j by omega];rw[ih k (by simpa using hk)];simp
theorem Ee (l):∀u∈AZ l,u.oneCell'=true:=by
 intro u hu;obtain⟨f,_,hf⟩:=List.mem_flatMap.1 hu;simp only[fdV,List.mem_cons,Bf,or_false]at hf;rcases hf with rfl|rfl|rfl|rfl<;>rfl
def CW (l:List Fd) (s:ByteArray):Bool:=l.any λf=>f.name.toList==s.toList
def D8 (l:List Fd) (i:Nat):Nat:=if i=0 then 0 else (l.getD (i-1) default).id.toNat
def Cd (l:List Fd) (i:Nat):Nat:=
 let f:=l.getD i default
 if f.id.toNat<=D8 l i then 81
 else if (!named f.name||CW (l.take i) f.name)=true then 80
 else if (decide (f.kind.toNat<1)||decide (3<f.kind.toNat))=true then 10
 else if ((f.need != decide (i=0))||(decide (i=0)&&decide (f.kind.toNat=2)))=true then 82
 else 0
def Cp (l:List Fd):Nat->Nat->Nat
 | 0,_=>0
 | b+1,i=>if Cd l i=0 then Cp l b (i+1) else Cd l i
theorem Mx (l b i)(h:Cd l i=0):Cp l (b+1) i=Cp l b (i+1):=by simp[Cp,h]
theorem Mz (l b i)(h:Cd l i≠0):Cp l (b+1) i=Cd l i:=by simp[Cp,h]
def check (id:UInt32) (l:List Fd):Nat:=if id.toNat<1\/l.length<1\/8<l.length then 1 else Cp l l.length 0
theorem Rd.fd {w B n c A l}(h:Rd w B 4 A n c (AZ l)){k}(hk:k<l.length):
 ∃b off,A=some ⟨b,off,none⟩/\b<B/\w.cell? (gX b (off+k * 4))=some (im ((l.getD k default).id.toNat:Int))/\w.cell? (gX b (off+k * 4+1))=some (.string (l.getD k default).name) /\
  w.cell? (gX b (off+k * 4+2))=some (ip ((l.getD k default).kind.toNat:Int))/\w.cell? (gX b (off+k * 4+3))=some (.bool (l.getD k default).need):=by
 have hn:0<n:=by
  have:=h.len;rw[Iy]at this;omega
 obtain⟨b,off,e,hb,hc⟩:=h.at_ hn;have hd:l.getD k default=l[k]:=by simp[List.getD,hk]
 have g:∀j,j<4->(AZ l)[k * 4+j]? = (fdV (l.getD k default))[j]?:=λj hj=>by rw[hd];exact T0 l k j hk hj
 exact⟨b,off,e,hb,hc (k * 4+0) _ (g 0 gd),hc (k * 4+1) _ (g 1 gd),hc (k * 4+2) _ (g 2 gd),hc (k * 4+3) _ (g 3 gd)⟩
theorem Rd.lenF {w B n c A l}(h:Rd w B 4 A n c (AZ l)):n=l.length:=by
 have:=h.len;rw[Iy]at this;omega
theorem Dp {l k e}(hk:k<l.length)(h:Cd l k=e)(he:e≠0):Cp l (l.length-k) k=e:=by
 rw[show l.length-k=(l.length-(k+1))+1 by omega,Mz _ _ _ (by rw[h];exact he),h]
theorem Iz {l k}(hk:k<l.length)(h:Cd l k=0):Cp l (l.length-k) k=Cp l (l.length-(k+1)) (k+1):=by
 rw[show l.length-k=(l.length-(k+1))+1 by omega,Mx _ _ _ h]
section
variable {l:List Fd} {k:Nat} {f:Fd} (hf:l.getD k default=f)
include hf
theorem J0 (h:f.id.toNat<=D8 l k):Cd l k=81:=by unfold Cd;rw[hf];simp only[h,if_true]
theorem IC (h:¬f.id.toNat<=D8 l k)(h2:(!named f.name||CW (l.take k) f.name)=true):Cd l k=80:=by unfold Cd;rw[hf];simp only[h,if_false,h2,if_true]
theorem N3 (h:¬f.id.toNat<=D8 l k)(h2:(!named f.name||CW (l.take k) f.name)=false)(h3:f.kind.toNat<1\/3<f.kind.toNat):Cd l k=10:=by
 unfold Cd;rw[hf];have G:(decide (f.kind.toNat<1)||decide (3<f.kind.toNat))=true:=by simpa using h3
 simp only[h,if_false,h2,G,if_true,EK]
theorem Gz (h:¬f.id.toNat<=D8 l k)(h2:(!named f.name||CW (l.take k) f.name)=false)(h3:¬(f.kind.toNat<1\/3<f.kind.toNat))(h4:((f.need != decide (k=0))||(decide (k=0)&&decide (f.kind.toNat=2)))=true):Cd l k=82:=by
 unfold Cd;rw[hf];have G:(decide (f.kind.toNat<1)||decide (3<f.kind.toNat))=false:=gt;simp only[h,if_false,h2,G,h4,if_true,EK]
theorem J1 (h:¬f.id.toNat<=D8 l k)(h2:(!named f.name||CW (l.take k) f.name)=false)(h3:¬(f.kind.toNat<1\/3<f.kind.toNat))(h4:((f.need != decide (k=0))||(decide (k=0)&&decide (f.kind.toNat=2)))=false):Cd l k=0:=by
 unfold Cd;rw[hf];have G:(decide (f.kind.toNat<1)||decide (3<f.kind.toNat))=false:=gt;simp only[h,if_false,h2,G,h4,EK]
end
def ED (l:List Fd):Nat:=(l.getD (l.length-1) default).id.toNat
def DH (l:List Fd) (name:ByteArray) (k:Nat):Fd:=⟨UInt32.ofNat (ED l+1),name,UInt8.ofNat k,false⟩
theorem Ef {id l}(h:check id l=0):1<=id.toNat/\1<=l.length/\l.length<=8:=by
 unfold check at h;split at h
 .omega
 omega
theorem ID {n}(h:n<4294967296):(UInt32.ofNat n).toNat=n:=by rw[UInt32.toNat_ofNat'];omega
theorem J2 {n}(h:n<256):(UInt8.ofNat n).toNat=n:=by rw[UInt8.toNat_ofNat'];omega
def J3 (w:World) (v:Value) (id:UInt32) (l:List Fd):Prop:= ∃A c,v = .agg (dR id A l.length c)/\Rd w w.heap.size 4 A l.length c (AZ l)
theorem J3.none (w):J3 w (.agg B3) 0 []:=⟨Option.none,0,rfl,Rd.nil _ _ _⟩
inductive Slot where
 | is (v:Value)
 | has (p:Value->World->Prop)
def Slot.holds:Slot->Value->World->Prop
 | .is v,u,_=>u=v
 | .has p,u,w=>p u w
@[go_sem] def Slot.lit:Slot->Value
 | .is v=>v
 | .has _=>undef
def Slot.exact:Slot->Bool
 | .is _=>true
 | .has _=>false
@[go_sem] def Bj (ss:List Slot):Array Value:=(ss.map Slot.lit).toArray
def BG (ss:List Slot) (t:Nat):Slot:=ss[t]?.getD (.is undef)
def AX (ss:List Slot) (d:Option Tmp) (s:Slot):List Slot:=
 match d with
 | some d=>ss.set d s
 | none=>ss
theorem N4 (ss d s):(AX ss d s).length=ss.length:=by cases d<;>simp[AX]
theorem J4 {ss d s t}(h:d≠some t):BG (AX ss d s) t=BG ss t:=by
 cases d with
 | none=>rfl
 | some d=>
   have:d≠t:=λe=>h (by rw[e]);simp[BG,AX,List.getElem?_set_ne this]
theorem N6 {ss s t}(h:t<ss.length):BG (AX ss (some t) s) t=s:=by
 simp[BG,AX,h]
theorem T4 (ss){x y}(s u)(h:∀d,x=some d->y≠some d):AX (AX ss x s) y u=AX (AX ss y u) x s:=by
 cases x with
 | none=>rfl
 | some d=>
   cases y with
   | none=>rfl
   | some e=>
     have G:d≠e:=λhe=>h d rfl (he▸rfl);simp only[AX];exact List.set_comm _ _ G
structure Grow (E:World->World->Prop):Prop where
 refl:∀w,E w w
 trans:∀ {a b c},E a b->E b c->E a c
def Slot.mono (E:World->World->Prop) (s:Slot):Prop:= ∀u w w',E w w'->s.holds u w->s.holds u w'
theorem Cq {E}(v):(Slot.is v).mono E:=λ_ _ _ _ h=>h
def Fp (P:Program) (E:World->World->Prop) (s:Slot) (w:World):Result Next->Prop
 | .ok (.value v) w'=>E w w'/\s.holds v w'
 | .ok .skip w'=>E w w'/\s.holds undef w'
 | .ok (.enter f args) w'=>E w w'/\Calls P f args w' (λe w''=>∃v,e = .returned v/\E w' w''/\s.holds v w'')
 | _=>False
section
variable {P:Program} {ops:Array Oper} {md:Region.Mode} {E:World->World->Prop} {w0:World}
def Dq (P:Program) (ops:Array Oper) (E:World->World->Prop) (w0:World) (ss:List Slot) (o:Oper) (s:Slot):Prop:=
 s.mono E/\∀(a:Act) (w:World),E w0 w->a.tmps.size=ss.length->(∀t∈o.looksAt ops,(BG ss t).holds (a.tmps.getD t undef) w) ->
  if Region.wanted o (yielded ops a.tmps)=true then Fp P E s w ((execOp a.eval o).run P w) else s = .is undef
def wpA (P:Program) (ops:Array Oper) (E:World->World->Prop) (w0:World) (Q:List Slot->Prop):List Oper->List Slot->Prop
 | [],ss=>Q ss
 | o::rest,ss=>∃s,Dq P ops E w0 ss o s/\wpA P ops E w0 Q rest (AX ss o.dst s)
def aOp (P:Program) (ops:Array Oper) (E:World->World->Prop) (w0:World) (i:Nat) (K:List Slot->Prop) (ss:List Slot):Prop:=
 match ops[i]? with
 | none=>K ss
 | some o=>∃s,Dq P ops E w0 ss o s/\K (AX ss o.dst s)
theorem N7 {i ss K K'}(h:∀ss,K ss->K' ss)(hh:aOp P ops E w0 i K ss):aOp P ops E w0 i K' ss:=by
 unfold aOp at *;split
 .rename_i ho;simp only[ho]at hh;exact h _ hh
 rename_i o ho;simp only[ho]at hh;obtain⟨s,h1,h2⟩:=hh;exact⟨s,h1,h _ h2⟩
theorem Dq.congr {ss ss' o s}(h:Dq P ops E w0 ss o s)(hl:ss'.length=ss.length)(hs:∀t∈o.looksAt ops,BG ss' t=BG ss t):Dq P ops E w0 ss' o s:=
 ⟨h.1,λa w hw hz hk=>h.2 a w hw (hz.trans hl) λt ht=>by have:=hk t ht;rwa [hs t ht]at this⟩
theorem Dq.aOp {i:Nat} {o:Oper} {s:Slot} {ss:List Slot} (hi:ops[i]? = some o) (hg:Dq P ops E w0 ss o s) {K:List Slot->Prop} (h:K (AX ss o.dst s)):aOp P ops E w0 i K ss:=by
 unfold Go.Proofs.YtpfofefecamkfaaGreatDoor.aOp;simp only[hi];exact⟨s,hg,h⟩
theorem T5 {i o ss K}(hi:ops[i]? = some o)(h:aOp P ops E w0 i K ss):∃s,Dq P ops E w0 ss o s/\K (AX ss o.dst s):=by
 unfold aOp at h;simpa only[hi]using h
theorem N9 {j oi oj s}(hj:ops[j]? = some oj)(hap:oi.apart ops oj=true){K ss}(hy:Dq P ops E w0 ss oi s)(h:aOp P ops E w0 j K (AX ss oi.dst s)):
 aOp P ops E w0 j (λG=>Dq P ops E w0 G oi s/\K (AX G oi.dst s)) ss:=by
 obtain⟨h1,h2,h3⟩:=Oper.apart_spec hap;obtain⟨u,hu,hk⟩:=T5 hj h;refine Dq.aOp hj (s:=u) (hu.congr (N4 _ _ _).symm λt ht=>?_) ⟨hy.congr (N4 _ _ _) λt ht=>?_,?_⟩
 .exact(J4 λe=>h1 t e ht).symm
 .exact J4 λe=>h3 t e ht
 rw[<-T4 ss s u h2];exact hk
structure Sat (E:World->World->Prop) (ds:List Deferred) (ss:List Slot) (a:Act) (w:World):Prop where
 size:a.tmps.size=ss.length
 defers:a.defers=ds
 mono:∀t,(BG ss t).mono E
 holds:∀t,(BG ss t).holds (a.tmps.getD t undef) w
theorem Sat.put {ds ss a w w' d s v}(h:Sat E ds ss a w)(he:E w w')(hs:s.mono E)(hv:s.holds v w'):
 Sat E ds (AX ss d s) (a.put d v) w':=by
 cases d with
 | none=>exact⟨h.size,h.defers,h.mono,λt=>h.mono t _ _ _ he (h.holds t)⟩
 | some d=>
   refine⟨by simp[Act.put,AX,h.size],h.defers,λt=>?_,λt=>?_⟩
   .by_cases ht:d=t
    .subst ht;by_cases hd:d<ss.length
     .rw[N6 hd];exact hs
     have:BG (AX ss (some d) s) d=BG ss d:=by simp[BG,AX,hd]
     rw[this];exact h.mono d
    rw[J4 (λe=>ht (EW e))];exact h.mono t
   by_cases ht:d=t
   .subst ht;by_cases hd:d<ss.length
    .rw[N6 hd];have:(a.put (some d) v).tmps.getD d undef=v:=by simp[Act.put,h.size,hd]
     rw[this];exact hv
    have e1:BG (AX ss (some d) s) d=BG ss d:=by simp[BG,AX,hd]
    have e2:(a.put (some d) v).tmps.getD d undef=a.tmps.getD d undef:=by simp[Act.put,h.size,hd]
    rw[e1,e2];exact h.mono d _ _ _ he (h.holds d)
   rw[J4 (λe=>ht (EW e))];have e2:(a.put (some d) v).tmps.getD t undef=a.tmps.getD t undef:=by simp[Act.put,Array.getElem?_setIfInBounds_ne ht]
   rw[e2];exact h.mono t _ _ _ he (h.holds t)
theorem NA (G:Grow E){ds i ss a w K K' Q'}(hw:E w0 w)(hs:Sat E ds ss a w)(h:∀ss' a' w',E w0 w'->Sat E ds ss' a' w'->K ss'->K' a' w')(hh:aOp P ops E w0 i K ss):wpOp P ops Q' i K' a w:=by
 unfold aOp at hh;unfold wpOp;split
 .rename_i ho;simp only[ho]at hh;exact h _ _ _ hw hs hh
 rename_i o ho;simp only[ho]at hh;obtain⟨s,⟨hm,hg⟩,hk⟩:=hh;have h1:=hg a w hw hs.size (λt _=>hs.holds t);split
 .rename_i hwt;rw[AJ hwt]at h1;refine .inl ?_;unfold Oper.wp;generalize (execOp a.eval o).run P w=r at *;cases r with
  | ok n w'=>
    cases n<;>simp only[Fp]at h1<;>simp only[Oper.upon];case value v=>exact h _ _ _ (G.trans hw h1.1) (hs.put h1.1 hm h1.2) hk
    case skip=>exact h _ _ _ (G.trans hw h1.1) (hs.put h1.1 hm h1.2) hk
    case enter f args=>
     refine h1.2.mono λe T he=>?_;obtain⟨v,rfl,O,hv⟩:=he;have I:=G.trans h1.1 O;exact h _ _ _ (G.trans hw I) (hs.put I hm hv) hk
  | halt x w'=>simp only[Fp]at h1
 rename_i hwt;rw[AE hwt]at h1;subst h1;exact h _ _ _ hw (hs.put (G.refl w) hm rfl) hk
def IE (P:Program) (md:Region.Mode) (ops:Array Oper) (E:World->World->Prop) (w0:World) (Q:List Slot->Prop):Nat->Array Bool->List Slot->Prop
 | 0,listed,ss=>Region.ready md ops listed=[]/\Q ss
 | fuel+1,listed,ss=>
   (Region.ready md ops listed=[]->Q ss)/\∀i∈Region.ready md ops listed,aOp P ops E w0 i (IE P md ops E w0 Q fuel (listed.setIfInBounds i true)) ss
theorem NB (G:Grow E){ds Q Q'}(hQ:∀ss a w,E w0 w->Sat E ds ss a w->Q ss->Q' .normal a w):
 ∀(fuel:Nat) (listed:Array Bool) (ss:List Slot) (a:Act) (w:World),E w0 w->Sat E ds ss a w->IE P md ops E w0 Q fuel listed ss->wpAny P md ops Q' fuel listed a w
 | 0,_,_,_,_,hw,hs,h=>⟨h.1,hQ _ _ _ hw hs h.2⟩
 | fuel+1,_,_,_,_,hw,hs,h=>⟨λh0=>hQ _ _ _ hw hs (h.1 h0),λi hi=>NA G hw hs (λ_ _ _ I O=>NB G hQ fuel _ _ _ _ I O) (h.2 i hi)⟩
theorem T6 {Q i oi s}(hi:ops[i]? = some oi):
 ∀(fuel:Nat) (G:Array Bool) (ss:List Slot),
  (∀j oj,ops[j]? = some oj->j≠i->G.getD j true=false->(∀e∈oj.after,Region.binds md e=true->e.on≠i)->oi.apart ops oj=true) ->
  i∈Region.ready md ops G->Dq P ops E w0 ss oi s ->
  IE P md ops E w0 Q fuel (G.setIfInBounds i true) (AX ss oi.dst s)->IE P md ops E w0 Q (fuel+1) G ss:=by
 intro fuel;induction fuel with
 | zero=>
   intro G ss _ hr hy H;refine⟨λh=>(by rw[h]at hr;cases hr),λj hj=>?_⟩;by_cases I:j=i
   .subst I;exact hy.aOp hi H
   have:=ready_mono hj I;rw[H.1]at this;cases this
 | succ fuel ih=>
   intro G ss O hr hy H;refine⟨λh=>(by rw[h]at hr;cases hr),λj hj=>?_⟩;by_cases I:j=i
   .subst I;exact hy.aOp hi H
   have h1:=H.2 j (ready_mono hj I);obtain⟨V,oj,Z,aa⟩:=mem_ready.1 hj;have ab:∀e∈oj.after,Region.binds md e=true->e.on≠i:=λe he hb af=>by
    have h1:=aa e he hb;rw[af,getD_both (mem_ready.1 hr).1]at h1;cases h1
   have h2:=N9 Z (O j oj Z I V ab) hy h1;have T:∀k ok,ops[k]? = some ok->k≠i->(G.setIfInBounds j true).getD k true=false ->
    (∀e∈ok.after,Region.binds md e=true->e.on≠i)->oi.apart ops ok=true:=λk ok hk ag ad ah=>by
    refine O k ok hk ag ?_ ah;by_cases ae:j=k
    .subst ae;exact V
    rw[getD_set_ne true ae]at ad;exact ad
   refine N7 (λai h3=>ih (G.setIfInBounds j true) ai T (ready_mono hr (Ne.symm I)) h3.1 ?_) h2;rw[Array.setIfInBounds_comm _ _ I];exact h3.2
theorem NC {Q}:∀(l:List Oper) (k:Nat) (listed:Array Bool) (ss:List Slot),(∀j,l[j]? = ops[k+j]?) ->
 Region.lexFrom md ops l.length k listed=true->wpA P ops E w0 Q l ss->IE P md ops E w0 Q l.length listed ss
 | [],_,_,_,_,hB,h=>⟨by simpa [Region.lexFrom]using hB,h⟩
 | o::l,k,listed,ss,hl,hB,h=>by
   have h0:ops[k]? = some o:=by simpa using (hl 0).symm
   simp only[Bg,Region.lexFrom,BX]at hB;obtain⟨⟨hr,hf⟩,hB'⟩:=hB;obtain⟨s,hg,hk⟩:=h;exact T6 h0 l.length listed ss (Region.free_spec h0 hf) (by simpa using hr) hg
    (NC l (k+1) _ _ (λj=>by have:=hl (j+1);simpa [Nat.add_assoc,Nat.add_comm 1 j]using this) hB' hk)
def IF (P:Program) (md:Region.Mode) (ops:Array Oper) (E:World->World->Prop) (w0:World) (n:Nat) (L:Array Bool->List Slot->Prop):Nat->Array Bool->List Slot->Prop
 | 0,listed,ss=>L listed ss
 | f+1,listed,ss=>
   Region.ready md ops listed≠[]/\∀i∈Region.ready md ops listed,i<n/\aOp P ops E w0 i (IF P md ops E w0 n L f (listed.setIfInBounds i true)) ss
theorem ND (G:Grow E){ds n g L Q'}(hL:∀listed ss a w,E w0 w->Sat E ds ss a w->L listed ss->wpAny P md ops Q' g listed a w):
 ∀(f:Nat) (listed:Array Bool) (ss:List Slot) (a:Act) (w:World),E w0 w->Sat E ds ss a w->IF P md ops E w0 n L f listed ss->wpAny P md ops Q' (f+g) listed a w
 | 0,listed,ss,a,w,hw,hs,h=>by rw[BL];exact hL _ _ _ _ hw hs h
 | f+1,listed,ss,a,w,hw,hs,h=>by
   rw[show f+1+g=(f+g)+1 by omega];exact⟨λh0=>absurd h0 h.1,λi hi=>NA G hw hs (λT a' w' I O h'=>ND G hL f _ _ _ _ I O h') (h.2 i hi).2⟩
theorem T7 {n i oi s L}(hi:ops[i]? = some oi)(hs:Region.sinkB md ops n=true)(hc:Region.chainB md ops n=true)(hn:n<ops.size)(hin:i<n)(hdone:∀G ss,L G ss->∀j∈Region.ready md ops G,n<=j):
 ∀(f:Nat) (G:Array Bool) (ss:List Slot),HeadInv md ops n G ->
  (∀j oj,ops[j]? = some oj->j≠i->G.getD j true=false->(∀e∈oj.after,Region.binds md e=true->e.on≠i)->oi.apart ops oj=true) ->
  i∈Region.ready md ops G->Dq P ops E w0 ss oi s ->
  IF P md ops E w0 n L f (G.setIfInBounds i true) (AX ss oi.dst s)->IF P md ops E w0 n L (f+1) G ss:=by
 intro f;induction f with
 | zero=>
   intro G ss V _ hr hy H;have O:=(mem_ready.1 hr).1;refine⟨λh=>(by rw[h]at hr;cases hr),λj hj=>?_⟩;have Z:j<n:=by
    rcases Nat.lt_or_ge j n with h|h
    .exact h
    exact absurd hj (tail_waits hs hc hn V _ i rfl hin O j h)
   refine⟨Z,?_⟩;by_cases I:j=i
   .subst I;exact hy.aOp hi H
   have:=hdone _ _ H j (ready_mono hj I);omega
 | succ f ih=>
   intro G ss V T hr hy H;have O:=(mem_ready.1 hr).1;refine⟨λh=>(by rw[h]at hr;cases hr),λj hj=>?_⟩;have Z:j<n:=by
    rcases Nat.lt_or_ge j n with h|h
    .exact h
    exact absurd hj (tail_waits hs hc hn V _ i rfl hin O j h)
   refine⟨Z,?_⟩;by_cases I:j=i
   .subst I;exact hy.aOp hi H
   have h1:=(H.2 j (ready_mono hj I)).2;obtain⟨ab,oj,ad,ae⟩:=mem_ready.1 hj;have af:∀e∈oj.after,Region.binds md e=true->e.on≠i:=λe he hb ah=>by
    have h1:=ae e he hb;rw[ah,getD_both O]at h1;cases h1
   have h2:=N9 ad (T j oj ad I ab af) hy h1;have aa:∀k ok,ops[k]? = some ok->k≠i->(G.setIfInBounds j true).getD k true=false ->
    (∀e∈ok.after,Region.binds md e=true->e.on≠i)->oi.apart ops ok=true:=λk ok hk ai O aj=>by
    refine T k ok hk ai ?_ aj;by_cases ag:j=k
    .subst ag;exact ab
    rw[getD_set_ne true ag]at O;exact O
   refine N7 (λak h3=>ih (G.setIfInBounds j true) ak (V.set hj Z) aa (ready_mono hr (Ne.symm I)) h3.1 ?_) h2;rw[Array.setIfInBounds_comm _ _ I];exact h3.2
theorem NE {n g Lq}(hs:Region.sinkB md ops n=true)(hc:Region.chainB md ops n=true)(hn:n<ops.size):
 ∀(l:List Oper) (k:Nat) (listed:Array Bool) (ss:List Slot),(∀j,j<l.length->l[j]? = ops[k+j]?)->k+l.length=n->HeadInv md ops n listed ->
 Region.lexHead md ops g l.length k listed=true->wpA P ops E w0 Lq l ss ->
 IF P md ops E w0 n (λG I=>Region.seqB md ops g n G=true/\Lq I) l.length listed ss
 | [],k,listed,ss,_,hk,_,hB,h=>by
   have:k=n:=by simpa using hk
   subst this;exact⟨by simpa [Region.lexHead]using hB,h⟩
 | o::l,k,listed,ss,hl,hk,inv,hB,h=>by
   have h0:ops[k]? = some o:=by simpa using (hl 0 gj).symm
   simp only[Bg,Region.lexHead,BX]at hB;obtain⟨⟨hr,hf⟩,hB'⟩:=hB;have O:k<n:=by simp only[Bg]at hk;omega
   have T:k∈Region.ready md ops listed:=by simpa using hr
   obtain⟨s,hg,hK⟩:=h;exact T7 h0 hs hc hn O (λG I hL=>seqB_ready hL.1) l.length listed ss inv (Region.free_spec h0 hf) T hg
    (NE hs hc hn l (k+1) _ _ (λj hj=>by have:=hl (j+1) gt;simpa [Nat.add_assoc,Nat.add_comm 1 j]using this) (by simp only[Bg]at hk;omega) (inv.set T O) hB' hK)
theorem NF {o}(hs:∀cs b,o.op≠.select cs b){a a':Act}(h:∀t∈o.looksAt ops,a.tmps.getD t undef=a'.tmps.getD t undef):
 execOp a.eval o=execOp a'.eval o:=
 execOp_congr o hs λx hx=>by
  cases x with
  | tmp t=>
    have ht:t∈o.looksAt ops:=List.mem_append_left _ (List.mem_filterMap.2 ⟨.tmp t,by simpa using hx,rfl⟩);simpa [Act.eval]using h t ht
  | _=>rfl
theorem KS {o}{a a':Act}(hz:a.tmps.size=a'.tmps.size)(h:∀t∈o.looksAt ops,a.tmps.getD t undef=a'.tmps.getD t undef):
 Region.wanted o (yielded ops a.tmps)=Region.wanted o (yielded ops a'.tmps):=by
 unfold Region.wanted;cases hg:o.guard with
 | none=>rfl
 | some g=>
   obtain⟨j,b⟩:=g;simp only;have e:yielded ops a.tmps j=yielded ops a'.tmps j:=by
    unfold yielded;cases hd:(ops[j]?).bind (·.dst)with
    | none=>simp_all
    | some d=>
      have O:d∈o.looksAt ops:=List.mem_append_right _ (by simp[hg,hd]);have h1:=h d O;by_cases I:d<a.tmps.size
      .have G:d<a'.tmps.size:=hz▸I;simp[I,G]at h1
       simp_all
      have G:¬d<a'.tmps.size:=hz▸I
      simp_all
   rw[e]
theorem KT (ss t):(Bj ss).getD t undef=(BG ss t).lit:=by
 unfold Bj BG;rcases Nat.lt_or_ge t ss.length with h|h
 .simp[h]
 simp[h,Slot.lit]
theorem IG (ss):(Bj ss).size=ss.length:=by simp[Bj]
section
variable {Q:List Slot->Prop} {o:Oper} {rest:List Oper} {ss:List Slot}
theorem TA (hk:(o.looksAt ops).all (λt=>(BG ss t).exact)=true)(hg:Region.wanted o (yielded ops (Bj ss))=false)(h:wpA P ops E w0 Q rest (AX ss o.dst (.is undef))):wpA P ops E w0 Q (o::rest) ss:=by
 refine⟨.is undef,⟨Cq _,λa w _ hz hl=>?_⟩,h⟩;have e:Region.wanted o (yielded ops a.tmps)=Region.wanted o (yielded ops (Bj ss)):=
  KS (a':=⟨Bj ss,[]⟩) (by simp[hz,IG]) λt ht=>by
   have h1:=hl t ht;have h2:=Da.1 hk t ht;rw[KT];cases hs:BG ss t with
   | is v=>rw[hs]at h1;exact h1
   | has p=>rw[hs]at h2;cases h2
 rw[e,hg];rfl
theorem NG {s}(hsel:∀cs b,o.op≠.select cs b)(hk:(o.looksAt ops).all (λt=>(BG ss t).exact)=true)(hg:Region.wanted o (yielded ops (Bj ss))=true)(hm:s.mono E)(h:∀w,E w0 w->Fp P E s w ((execOp (Act.eval ⟨Bj ss,[]⟩) o).run P w)):Dq P ops E w0 ss o s:=by
 refine⟨hm,λa w hw hz hl=>?_⟩;have G:∀t∈o.looksAt ops,a.tmps.getD t undef=(⟨Bj ss,[]⟩:Act).tmps.getD t undef:=λt ht=>by
  have h1:=hl t ht;have h2:=Da.1 hk t ht;simp only[KT];cases hs:BG ss t with
  | is v=>rw[hs]at h1;exact h1
  | has p=>rw[hs]at h2;cases h2
 rw[KS (a':=⟨Bj ss,[]⟩) (by simp[hz,IG]) G,hg,AJ rfl,NF hsel G];exact h w hw
theorem Cr (G:Grow E)(v)(hsel:∀cs b,o.op≠.select cs b)(hk:(o.looksAt ops).all (λt=>(BG ss t).exact)=true)(hg:Region.wanted o (yielded ops (Bj ss))=true)(h:∀w,E w0 w->∀C:Result Next->Prop,C (.ok (.value v) w)->C ((execOp (Act.eval ⟨Bj ss,[]⟩) o).run P w))(hn:wpA P ops E w0 Q rest (AX ss o.dst (.is v))):wpA P ops E w0 Q (o::rest) ss:=
 ⟨.is v,NG hsel hk hg (Cq _) λw hw=>h w hw (Fp P E (.is v) w) ⟨G.refl w,rfl⟩,hn⟩
theorem C5 (s)(hsel:∀cs b,o.op≠.select cs b)(hk:(o.looksAt ops).all (λt=>(BG ss t).exact)=true)(hg:Region.wanted o (yielded ops (Bj ss))=true)(hm:s.mono E)(h:∀w,E w0 w->Fp P E s w ((execOp (Act.eval ⟨Bj ss,[]⟩) o).run P w))(hn:wpA P ops E w0 Q rest (AX ss o.dst s)):wpA P ops E w0 Q (o::rest) ss:=
 ⟨s,NG hsel hk hg hm h,hn⟩
theorem TB {s}(t p)(ht:BG ss t = .has p)(htl:t<ss.length)(hsel:∀cs b,o.op≠.select cs b)(hk:(o.looksAt ops).all (λi=>i==t||(BG ss i).exact)=true)(hin:(o.looksAt ops).contains t=true)(hg:∀u,Region.wanted o (yielded ops ((Bj ss).setIfInBounds t u))=true)(hm:s.mono E)(h:∀u w,E w0 w->p u w->Fp P E s w ((execOp (Act.eval ⟨(Bj ss).setIfInBounds t u,[]⟩) o).run P w)):Dq P ops E w0 ss o s:=by
 refine⟨hm,λa w hw hz hl=>?_⟩;have hp:p (a.tmps.getD t undef) w:=by
  have:=hl t (by simpa using hin);rw[ht]at this;exact this
 have I:∀i∈o.looksAt ops,a.tmps.getD i undef=(⟨(Bj ss).setIfInBounds t (a.tmps.getD t undef),[]⟩:Act).tmps.getD i undef:=λi hi=>by
  by_cases G:t=i
  .subst G;simp[IG,htl]
  have h1:=hl i hi;have h2:=Da.1 hk i hi;have e3:((Bj ss).setIfInBounds t (a.tmps.getD t undef)).getD i undef=(Bj ss).getD i undef:=by simp[Array.getElem?_setIfInBounds_ne G]
  have O:(i==t)=false:=by simpa using λe=>G e.symm
  rw[O,Bool.false_or]at h2;show _=((Bj ss).setIfInBounds t (a.tmps.getD t undef)).getD i undef;rw[e3,KT];cases hs:BG ss i with
  | is v=>rw[hs]at h1;exact h1
  | has p=>rw[hs]at h2;cases h2
 rw[KS (a':=⟨(Bj ss).setIfInBounds t (a.tmps.getD t undef),[]⟩) (by simp[hz,IG]) I,hg,AJ rfl,NF hsel I];exact h _ w hw hp
theorem J5 (t p s)(ht:BG ss t = .has p)(htl:t<ss.length)(hsel:∀cs b,o.op≠.select cs b)(hk:(o.looksAt ops).all (λi=>i==t||(BG ss i).exact)=true)(hin:(o.looksAt ops).contains t=true)(hg:∀u,Region.wanted o (yielded ops ((Bj ss).setIfInBounds t u))=true)(hm:s.mono E)(h:∀u w,E w0 w->p u w->Fp P E s w ((execOp (Act.eval ⟨(Bj ss).setIfInBounds t u,[]⟩) o).run P w))(hn:wpA P ops E w0 Q rest (AX ss o.dst s)):wpA P ops E w0 Q (o::rest) ss:=
 ⟨s,TB t p ht htl hsel hk hin hg hm h,hn⟩
end
def C6:List Slot->(List Value->World->Prop)->World->Prop
 | [],K,w=>K [] w
 | .is v::r,K,w=>C6 r (λl w=>K (v::l) w) w
 | .has p::r,K,w=>∀u,p u w->C6 r (λl w=>K (u::l) w) w
theorem KU:∀(ss:List Slot) (K:List Value->World->Prop) (w:World) (l:List Value),l.length=ss.length->(∀t,(BG ss t).holds (l[t]?.getD undef) w)->C6 ss K w->K l w
 | [],K,w,l,hl,_,h=>by
   have:l=[]:=Fm (by simpa using hl);subst this;exact h
 | s::r,K,w,l,hl,hh,h=>by
   cases l with
   | nil=>simp at hl
   | cons x l=>
     have h0:=hh 0;have ht:∀t,(BG r t).holds (l[t]?.getD undef) w:=λt=>by have:=hh (t+1);simpa [BG]using this
     simp only[BG,List.getElem?_cons_zero,Option.getD_some]at h0;cases s with
     | is v=>
       have G:x=v:=h0;subst G;exact KU r _ w l (by simpa using hl) ht h
     | has p=>exact KU r _ w l (by simpa using hl) ht (h x h0)
theorem NH (E)(l:List Value)(ds w):Sat E ds (l.map Slot.is) ⟨l.toArray,ds⟩ w:=by
 have e:∀t,BG (l.map Slot.is) t = .is (l[t]?.getD undef):=λt=>by
  unfold BG;rcases Nat.lt_or_ge t l.length with h|h
  .simp[h]
  simp[h]
 refine⟨gj,rfl,λt=>by rw[e t];exact Cq _,λt=>?_⟩;rw[e t];simp[Slot.holds]
def KV (E:World->World->Prop) (w0:World) (K:Act->World->Prop) (ds:List Deferred) (ss:List Slot):Prop:=
 ∀w,E w0 w->C6 ss (λl w=>K ⟨l.toArray,ds⟩ w) w
theorem NI {K ds ss a w}(hw:E w0 w)(hs:Sat E ds ss a w)(h:KV E w0 K ds ss):K a w:=by
 obtain⟨⟨l⟩,d⟩:=a;have hd:d=ds:=hs.defers;subst hd;exact KU ss _ w l (by simpa using hs.size) (λt=>by have:=hs.holds t;simpa using this) (h w hw)
theorem DR {id Q}{l:List Value}{ds w lo}(G:Grow E)(hm:P.follows .mixedOrders=true)(hB:Region.lexB .any lo.toArray=true)(h:wpA P lo.toArray E w.drew (KV E w.drew (Q .normal) ds) lo (l.map Slot.is)):(Code.region id lo.toArray true).wp P Q ⟨l.toArray,ds⟩ w:=by
 simp only[Region.lexB,BX]at hB;refine wp_region_any hm ?_;have H:=NC (md:=.any) (P:=P) (E:=E) (w0:=w.drew) lo 0 (Array.replicate lo.toArray.size false) (l.map Slot.is) gj (by simpa using hB.2) h;have:=NB (Q':=Q) (md:=.any) (ops:=lo.toArray) G (λss a w' hw hs hq=>NI hw hs hq) lo.length _ (l.map Slot.is) ⟨l.toArray,ds⟩ w.drew (G.refl _) (NH E l ds _) H;simpa using this
theorem II {id Q}{l:List Value}{ds w}{lo:List Oper}(n)(G:Grow E)(hm:P.follows .mixedOrders=true)(hB:Region.lexTailB .any lo.toArray n=true)(h:wpA P lo.toArray E w.drew (KV E w.drew (λa' w'=>wpList P lo.toArray Q (lo.drop n) a' w') ds) (lo.take n) (l.map Slot.is)):(Code.region id lo.toArray true).wp P Q ⟨l.toArray,ds⟩ w:=by
 simp only[Region.lexTailB,BX,BI]at hB;obtain⟨⟨⟨⟨_,hn⟩,hs⟩,hc⟩,hlex⟩:=hB;have ab:n<lo.length:=by simpa using hn
 have I:(lo.take n).length=n:=gt;have T:(lo.drop n).length=lo.toArray.size-n:=gj;have V:HeadInv .any lo.toArray n (Array.replicate lo.toArray.size false):=
  ⟨gj,λj oj _ hl=>(by rw[getD_replicate_false]at hl;cases hl),λt _ ht=>getD_in (by simpa using ht) (getD_replicate_false _ _)⟩
 have H:=NE (md:=.any) (P:=P) (E:=E) (w0:=w.drew) (g:=lo.toArray.size-n) hs hc hn (lo.take n) 0 _ (l.map Slot.is) (λj hj=>by
  have Z:j<n:=by rw[I]at hj;exact hj
  simp[Z]) (by simpa using I) V (by rw[I];exact hlex) h
 refine wp_region_any hm ?_;have:=ND (Q':=Q) (g:=lo.toArray.size-n) G (λO ss a' w' hw aa hL=>by
  have hq:=NI hw aa hL.2;have:=wpAny_of_seq (md:=.any) (Q':=Q) (lo.drop n) n O a' w' (λj=>by simp[List.getElem?_drop]) (by rw[T];exact hL.1) hq
  rwa [T]at this) _ _ _ ⟨l.toArray,ds⟩ w.drew (G.refl _) (NH E l ds _) H
 rw[I,show n+(lo.toArray.size-n)=lo.toArray.size by omega]at this;exact this
end
def Ext (w w':World):Prop:=Below w.heap.size w w'
theorem BC:Grow Ext:=⟨λw=>AC _ w,λh k=>Below.trans h (Below.mono k h.size)⟩
section
variable {P:Program} {ops:Array Oper} {E:World->World->Prop} {w0:World} {Q:List Slot->Prop} {o:Oper} {rest:List Oper} {ss:List Slot}
def KW (o:Oper):Bool:=match o.op with | .select _ _=>false|_=>true
theorem TC (h:KW o=true):∀cs b,o.op≠.select cs b:=λ_ _ e=>by rw[KW,e]at h;cases h
theorem zV (v)(hk:(KW o&&(o.looksAt ops).all (λt=>(BG ss t).exact)&&Region.wanted o (yielded ops (Bj ss)))=true)(h:∀w,Ext w0 w->∀C:Result Next->Prop,C (.ok (.value v) w)->C ((execOp (Act.eval ⟨Bj ss,[]⟩) o).run P w))(hn:wpA P ops Ext w0 Q rest (AX ss o.dst (.is v))):wpA P ops Ext w0 Q (o::rest) ss:=
 Cr BC v (TC (GR.1 (GR.1 hk).1).1) (GR.1 (GR.1 hk).1).2 (GR.1 hk).2 h hn
theorem zS (hk:((o.looksAt ops).all (λt=>(BG ss t).exact) && !Region.wanted o (yielded ops (Bj ss)))=true)(h:wpA P ops E w0 Q rest (AX ss o.dst (.is undef))):wpA P ops E w0 Q (o::rest) ss:=
 TA (GR.1 hk).1 (by simpa using (GR.1 hk).2) h
end
def F9 (l:List UInt8) (v:Value) (w:World):Prop:= ∃A c,v = .slice A l.length c/\Rd w w.heap.size 1 A l.length c (AO l)
theorem J6 (l):(Slot.has (F9 l)).mono Ext:=λ_ _ _ he ⟨A,c,e,h⟩=>⟨A,c,e,(h.below he).more he.size⟩
theorem TD {e:Ending}{w w' l v base t}(he:e = .returned v)(ho:w'.ownsRow base t 1 v l.length (AO l))(hb:Below w.heap.size w w'):
 ∃v,e = .returned v/\Ext w w'/\(Slot.has (F9 l)).holds v w':=by
 obtain⟨A,c,rfl,hr⟩:=Rd.of_own ho;exact⟨_,he,hb,A,c,rfl,hr⟩
theorem Db {e:Ending}{w w' v}(he:e = .returned v)(hb:Below w.heap.size w w'):∃u,e = .returned u/\Ext w w'/\(Slot.is v).holds u w':=⟨v,he,hb,rfl⟩
theorem CO {B a w}(h:Below B a w)(n):Below B a (w.drewN n):=⟨h.os,h.tape,h.output,h.size,h.block⟩
theorem Ex:STy prog 31 89 4 32 (.agg #[im 0,.string ByteArray.empty,ip 0,.bool false]):=⟨underlying31,gh,rfl,gm,gm⟩
theorem J7 (l k):(AZ l).take (k * 4)=AZ (l.take k):=by
 induction l generalizing k with
 | nil=>simp[AZ]
 | cons f l ih=>
   cases k with
   | zero=>simp[AZ]
   | succ k=>rw[Ix,EL,Ix,show(k+1) * 4=(fdV f).length+k * 4 by rw[Gy];omega,List.take_length_add_append,ih]
def Fq (p:Fd->Bool) (l:List Fd):Int:=if l.any p then (l.findIdx p:Int) else -1
theorem TE {p}{l:List Fd}{k}(hk:k<l.length)(h:p (l.getD k default)=true)(hn:∀j,j<k->p (l.getD j default)=false):Fq p l=(k:Int):=by
 have G:p l[k]=true:=by simpa [List.getD,hk]using h
 have ha:l.any p=true:=List.any_eq_true.2 ⟨l[k],List.getElem_mem hk,G⟩;unfold Fq;rw[AJ ha];congr 1;rw[List.findIdx_eq hk];refine⟨G,λj hj=>?_⟩;have:=hn j hj;simpa [List.getD,show j<l.length by omega]using this
theorem TF {p}{l:List Fd}(h:∀j,j<l.length->p (l.getD j default)=false):l.any p=false:=by
 rw[List.any_eq_false];intro f hf;obtain⟨j,hj,rfl⟩:=EZ.1 hf;have:=h j hj;simp[List.getD,hj]at this;simp[this]
theorem TG {p l}(h:∀j,j<l.length->p (l.getD j default)=false):Fq p l = -1:=by
 unfold Fq;rw[TF h];rfl
theorem TH (p l):decide ((0:Int)<=Fq p l)=l.any p:=by
 unfold Fq;cases l.any p<;>simp
def J8 (w:World) (g:Nat) (lb:Array Value) (p:Fd->Bool):Prop:=
 ∀(W:World) (f:Fd),Below w.heap.size w W->Calls prog g (#[.agg (fDV f)]++lb) W λe w'=>e = .returned (.bool (p f))/\Below w.heap.size w w'
theorem TI (w B n c A l)(hr:Rd w B 4 A n c (AZ l))(hB:B<=w.heap.size)(hmax:l.length<=1000000)(g lb p)(eg:∀args w,(callFunc g args).run prog w = .ok (.enter g args) w)(hp:J8 w g lb p):
 Calls prog 152 #[.slice A n c,.func (.func g) #[] lb] w λe w'=>e = .returned (io (Fq p l))/\Below w.heap.size w w':=by
 obtain rfl:=hr.lenF;have hr:=hr.more hB;clear hB;go_enter func152,ntmps152;go_wp2_with fail
 go_loopw [5,8] (λ_ kv wr=>∃k:Nat,k<=l.length/\kv = io k/\ga (∀j,j<k->p (l.getD j default)=false)/\ga (Below w.heap.size w wr)) (λ_ kv _=>l.length-(intOf kv).toNat);case atStart=>exact⟨0,AU _,rfl,AB (λj h=>gd),AB (AC _ _)⟩
 case round=>
  obtain⟨k,hk,rfl,hf,I⟩:=hrel;by_cases O:k<l.length
  .obtain⟨b,off,rfl,hb,f0,f1,f2,f3⟩:=(hr.below I.o).fd O;have G:=hp wr (l.getD k default) I.o;generalize T:l.getD k default=f at *;have HF:=AB T;clear T hp;cases hq:p f with
   | true=>
     rw[hq]at G;have HQ:=AB hq;clear hq;(go_wp2_with fail);refine G.mono ?_;rintro e w' ⟨rfl,hb'⟩;(go_wp2_with fail);go_ret;exact⟨by rw[TE O (by rw[HF.o];exact HQ.o) hf.o];rfl,hb'⟩
   | false=>
     rw[hq]at G;have HQ:=AB hq;clear hq;(go_wp2_with fail);refine G.mono ?_;rintro e w' ⟨rfl,hb'⟩;(go_wp2_with fail);go_roundw;case rel=>
      refine⟨k+1,gd,by go_num,AB (λj hj=>?_),AB hb'⟩;by_cases e:j=k
      .rw[e,HF.o];exact HQ.o
      exact hf.o j gd
     case measure=>exact Co k _ O
  obtain rfl:k=l.length:=gd;go_wp2_with fail
  go_ret;exact⟨by rw[TG hf.o];rfl,I.o⟩
theorem NJ (w B n c A l)(hr:Rd w B 4 A n c (AZ l))(hB:B<=w.heap.size)(hmax:l.length<=1000000)(g lb p)(eg:∀args w,(callFunc g args).run prog w = .ok (.enter g args) w)(hp:J8 w g lb p):
 Calls prog 81 #[.slice A n c,.func (.func g) #[] lb] w λe w'=>e = .returned (.bool (l.any p))/\Below w.heap.size w w':=by
 have hc:=TI w B n c A l hr hB hmax g lb p eg hp;rw[<-TH];generalize Fq p l=r at *;clear hr eg hp;go_enter func81,ntmps81;go_wp2_with fail
 refine hc.mono ?_;rintro e w' ⟨rfl,hb⟩;go_wp2_with fail
 go_ret;exact⟨rfl,hb⟩
theorem TJ (w bf off s)(hbf:bf<w.heap.size)(hc:w.cell? (gX bf (off+1))=some (.string s)):
 J8 w 82 #[iq bf off] (λf=>f.name.toList==s.toList):=λW f hb=>by
 have:=(hb.cell (p:=gX bf (off+1)) hbf).trans hc;have G:bf<W.heap.size:=AV hbf hb.size;have:bf≠W.heap.size:=Cy G;show Calls prog 82 #[.agg (fDV f),iq bf off] W _;clear hc;go_enter func82,ntmps82;go_wp2_with fail
 go_ret;exact⟨rfl,hb.alloc hb.size _⟩
theorem TK:∀args w,(callFunc 82 args).run prog w = .ok (.enter 82 args) w:=enters_of func82 gh rfl
theorem Ha (w B n c A xs)(hr:Rd w B 4 A n c xs)(h1:∀u∈xs,u.oneCell'=true)(hb:n * 32<=140737488355328)(hB:B<=w.heap.size):
 Calls prog 84 #[.slice A n c] w (GT w 89 4 n xs):=by
 have:=λW=>Lib.run_eql_slice_nil (P:=prog) W 31 89 A n c 0 0 underlying31;cases A with
 | none=>
   obtain⟨rfl,rfl⟩:=hr.none_;go_enter func84,ntmps84;(go_wp2_with fail);go_ret;exact⟨_,rfl,Av _ _ _ _,AC _ _⟩
 | some ad=>
   have I:=Ew w (base:=w.heap.size) 89 4 0 #[] (AD _) gm rfl;have O:=hr.alloc hB (.cells #[] 89);go_enter func84,ntmps84;go_wp2_with (at_builtin;refine Aw _ Ex rfl _ _ rfl w.heap.size _ 0 [] rfl I B (some ad) _ c _ rfl O h1 gd gj ?_;intro v2 w2 G T _;simp only[BL,CN]at G;have V:=Au (hI w (.cells #[] 89)) (AD _) I T gj)
   go_ret;exact⟨v2,rfl,G,V⟩
theorem NK (w)(k:Nat)(hk:k<256):Calls prog 83 #[ip k] w λe w'=>e = .returned (.bool (decide (1<=k/\k<=3)))/\w=w':=by
 by_cases h1:1<=k
 .have s1:=gI 1 k;by_cases h2:k<=3
  .have s2:=gI k 3;rw[AF ⟨h1,h2⟩];go_enter func83,ntmps83;(go_wp2_with fail);go_ret;exact⟨rfl,rfl⟩
  have s2:=gJ k 3;rw[AG gd];go_enter func83,ntmps83;go_wp2_with fail
  go_ret;exact⟨rfl,rfl⟩
 have s1:=gJ 1 k;rw[AG gd];go_enter func83,ntmps83;go_wp2_with fail
 go_ret;exact⟨rfl,rfl⟩
theorem TL {l k}:D8 l (k+1)=(l.getD k default).id.toNat:=by unfold D8;simp
theorem KX (w b x y)(c0:w.cell? (gX b 0)=some x)(c1:w.cell? (gX b 1)=some y):(loadVar 33 ⟨b,0,none⟩).run prog w = .ok (.agg #[x,y]) w:=by
 go_simp
theorem D9 {fn p u}(h:fn.results=#[.cell p 33,.tmp u])(tmps w){b x y}(hp:tmps.getD p undef = iq b 0)(c0:w.cell? (gX b 0)=some x)(c1:w.cell? (gX b 1)=some y):
 (results fn tmps).run prog w = .ok (.tuple #[.agg #[x,y],tmps.getD u undef]) w:=by
 rw[results_cell_tmp h,hp];have:=KX w b x y c0 c1;simp[asAddr,Result.andThen,this]
structure Box (w w':World) (cs:Array Value):Prop where
 below:Below w.heap.size w w'
 size:w'.heap.size=w.heap.size+1
 cell:∀j v,cs[j]? = some v->w'.cell? ⟨w.heap.size,j,none⟩=some v
 free:∀j,w'.frozen? ⟨w.heap.size,j,none⟩=false
theorem Box.c2 {w w' a0 a1 l}(h:Box w w' ⟨a0::a1::l⟩):w'.cell? (gX w.heap.size 0)=some a0/\w'.cell? (gX w.heap.size 1)=some a1:=⟨h.cell 0 _ gj,h.cell 1 _ gj⟩
theorem Box.c3 {w w' a0 a1 a2 l}(h:Box w w' ⟨a0::a1::a2::l⟩):w'.cell? (gX w.heap.size 0)=some a0/\w'.cell? (gX w.heap.size 1)=some a1/\w'.cell? (gX w.heap.size 2)=some a2:=⟨h.cell 0 _ gj,h.cell 1 _ gj,h.cell 2 _ gj⟩
theorem Box.c4 {w w' a0 a1 a2 a3 l}(h:Box w w' ⟨a0::a1::a2::a3::l⟩):w'.cell? (gX w.heap.size 0)=some a0/\w'.cell? (gX w.heap.size 1)=some a1/\w'.cell? (gX w.heap.size 2)=some a2/\w'.cell? (gX w.heap.size 3)=some a3:=⟨h.cell 0 _ gj,h.cell 1 _ gj,h.cell 2 _ gj,h.cell 3 _ gj⟩
theorem Box.c5 {w w' a0 a1 a2 a3 a4 l}(h:Box w w' ⟨a0::a1::a2::a3::a4::l⟩):w'.cell? (gX w.heap.size 0)=some a0/\w'.cell? (gX w.heap.size 1)=some a1/\w'.cell? (gX w.heap.size 2)=some a2/\w'.cell? (gX w.heap.size 3)=some a3/\w'.cell? (gX w.heap.size 4)=some a4:=⟨h.cell 0 _ gj,h.cell 1 _ gj,h.cell 2 _ gj,h.cell 3 _ gj,h.cell 4 _ gj⟩
theorem Box.c6 {w w' a0 a1 a2 a3 a4 a5 l}(h:Box w w' ⟨a0::a1::a2::a3::a4::a5::l⟩):w'.cell? (gX w.heap.size 0)=some a0/\w'.cell? (gX w.heap.size 1)=some a1/\w'.cell? (gX w.heap.size 2)=some a2/\w'.cell? (gX w.heap.size 3)=some a3/\w'.cell? (gX w.heap.size 4)=some a4/\w'.cell? (gX w.heap.size 5)=some a5:=⟨h.cell 0 _ gj,h.cell 1 _ gj,h.cell 2 _ gj,h.cell 3 _ gj,h.cell 4 _ gj,h.cell 5 _ gj⟩
theorem Box.c7 {w w' a0 a1 a2 a3 a4 a5 a6 l}(h:Box w w' ⟨a0::a1::a2::a3::a4::a5::a6::l⟩):w'.cell? (gX w.heap.size 0)=some a0/\w'.cell? (gX w.heap.size 1)=some a1/\w'.cell? (gX w.heap.size 2)=some a2/\w'.cell? (gX w.heap.size 3)=some a3/\w'.cell? (gX w.heap.size 4)=some a4/\w'.cell? (gX w.heap.size 5)=some a5/\w'.cell? (gX w.heap.size 6)=some a6:=⟨h.cell 0 _ gj,h.cell 1 _ gj,h.cell 2 _ gj,h.cell 3 _ gj,h.cell 4 _ gj,h.cell 5 _ gj,h.cell 6 _ gj⟩
theorem Box.c8 {w w' a0 a1 a2 a3 a4 a5 a6 a7 l}(h:Box w w' ⟨a0::a1::a2::a3::a4::a5::a6::a7::l⟩):w'.cell? (gX w.heap.size 0)=some a0/\w'.cell? (gX w.heap.size 1)=some a1/\w'.cell? (gX w.heap.size 2)=some a2/\w'.cell? (gX w.heap.size 3)=some a3/\w'.cell? (gX w.heap.size 4)=some a4/\w'.cell? (gX w.heap.size 5)=some a5/\w'.cell? (gX w.heap.size 6)=some a6/\w'.cell? (gX w.heap.size 7)=some a7:=⟨h.cell 0 _ gj,h.cell 1 _ gj,h.cell 2 _ gj,h.cell 3 _ gj,h.cell 4 _ gj,h.cell 5 _ gj,h.cell 6 _ gj,h.cell 7 _ gj⟩
theorem Dc (w cs t):Box w (w.alloc (.cells cs t)) cs where
 below:=(AC _ _).alloc (AD _) _
 size:=gj
 cell:=λj v h=>by
  rw[cell_of_row _ _ _ cs t (0,0) (heap_alloc_new w _)];exact h
 free:=λj=>by
  simp
theorem Box.lift {w w' w2 cs}(h:Box w w' cs)(hb:Below w'.heap.size w' w2):(∀j v,cs[j]? = some v->w2.cell? (gX w.heap.size j)=some v)/\(∀j,w2.frozen? ⟨w.heap.size,j,none⟩=false)/\w.heap.size<w2.heap.size/\Below w.heap.size w w2:=by
 have:=h.size;refine⟨λj v hj=>(hb.cell (p:=gX w.heap.size j) (show w.heap.size<w'.heap.size by omega)).trans (h.cell j v hj),λj=>(hb.frozen (p:=gX w.heap.size j) (show w.heap.size<w'.heap.size by omega)).trans (h.free j),?_,AM h.below h.below.size hb⟩;have:=hb.size;omega
theorem BZ (W:World)(b u v x y)(c0:W.cell? (gX b 0)=some u)(c1:W.cell? (gX b 1)=some v):
 ((W.setCell (gX b 0) x).setCell (gX b 1) y).cell? (gX b 0)=some x/\((W.setCell (gX b 0) x).setCell (gX b 1) y).cell? (gX b 1)=some y:=by
 constructor<;>go_simp
theorem Cf {B w W}(h:Below B w W)(b)(hb:B<=b)(x y):Below B w ((W.setCell (gX b 0) x).setCell (gX b 1) y):=(h.setCell hb x).setCell hb y
theorem TM {W B sz n c A xs}(h:Rd W B sz A n c xs)(b)(hb:B<=b)(x y):Rd ((W.setCell (gX b 0) x).setCell (gX b 1) y) B sz A n c xs:=
 h.keep λ_p hp=>(Cf (AC B W) b hb x y).cell hp
def J9 (B:Nat) (xs:List Value) (v:Value) (w:World):Prop:= ∃n,n * 4=xs.length/\w.ownsRow B 89 4 v n xs
theorem NL (B xs):(Slot.has (J9 B xs)).mono Ext:=λ_ _ _ he ⟨n,e,h⟩=>⟨n,e,Ag h he⟩
theorem NM {w w' B n xs e}(h:GT w 89 4 n xs e w')(hB:B<=w.heap.size):∃v,e = .returned v/\Ext w w'/\(Slot.has (J9 B xs)).holds v w':=by
 obtain⟨v,rfl,ho,hb⟩:=h;exact⟨v,rfl,hb,n,by rw[ho.1],B4 ho hB⟩
inductive Vl where
 | none
 | whole (n:Int)
 | truth (b:Bool)
 | text (s:ByteArray)
instance:Inhabited Vl:=⟨.none⟩
structure Cl where
 kind:UInt8
 n:Int
 s:ByteArray
instance:Inhabited Cl:=⟨⟨0,0,⟨#[]⟩⟩⟩
theorem TN (l):∀b i,Cp l b i=0->∀j,i<=j->j<i+b->Cd l j=0:=by
 intro b;induction b with
 | zero=>intro i _ j h1 h2;omega
 | succ b ih=>
   intro i h j h1 h2;by_cases h0:Cd l i=0
   .rw[Mx l b i h0]at h;by_cases e:j=i
    .rw[e];exact h0
    exact ih (i+1) h j gd gd
   rw[Mz l b i h0]at h;exact absurd h h0
theorem TP {id l}(h:check id l=0):∀j,j<l.length->Cd l j=0:=by
 have:=Ef h;unfold check at h;rw[AE gd]at h;exact λj hj=>TN l _ _ h j (AU _) gd
def two:List Fd:=[⟨1,⟨#[105,100]⟩,1,true⟩,⟨2,⟨#[110,97,109,101]⟩,3,false⟩]
def age:ByteArray:=⟨#[97,103,101]⟩
def fy:List Fd:=two++[DH two age 1]
theorem TQ {fn p}(h:fn.results=#[.cell p 33])(tmps w){b x y}(hp:tmps.getD p undef = iq b 0)(c0:w.cell? (gX b 0)=some x)(c1:w.cell? (gX b 1)=some y):
 (results fn tmps).run prog w = .ok (.agg #[x,y]) w:=by
 have:=KX w b x y c0 c1;have G:tmps[p]?.getD undef = iq b 0:=by simpa using hp
 simp only[results,h];simp[G,asAddr,this]
def AY (l:List ByteArray):List Value:=l.map .string
theorem Rd.lenT {w B n c A l}(h:Rd w B 1 A n c (AY l)):n=l.length:=by
 have:=h.len;simp[AY]at this;omega
theorem Rd.st {w B n c A l}(h:Rd w B 1 A n c (AY l)){k}(hk:k<l.length):
 ∃b off,A=some ⟨b,off,none⟩/\b<B/\w.cell? (gX b (off+k))=some (.string (l.getD k default)):=by
 obtain⟨b,off,e,hb,hc⟩:=h.cellAt (k:=k) (by simp[AY];exact hk);refine⟨b,off,e,hb,hc.trans ?_⟩;simp[AY,List.getD,hk]
namespace Var
def put (n:Nat):List UInt8:=if n<128 then [UInt8.ofNat n] else UInt8.ofNat (n % 128+128)::put (n/128)
termination_by n
decreasing_by omega
theorem put_lt {n}(h:n<128):put n=[UInt8.ofNat n]:=by rw[put,AJ h]
theorem put_ge {n}(h:128<=n):put n=UInt8.ofNat (n % 128+128)::put (n/128):=by rw[put,AE gd]
theorem put_pos (n):0<(put n).length:=by
 rw[put];split<;>simp
theorem TR (k):∀n,n<128^(k+1)->(put n).length<=k+1:=by
 induction k with
 | zero=>intro n h;rw[put_lt (by simpa using h)];simp
 | succ k ih=>
   intro n h;by_cases hn:n<128
   .rw[put_lt hn];simp
   rw[put_ge gd];have:=ih (n/128) (by rw[Nat.div_lt_iff_lt_mul gd];rw[Nat.pow_succ]at h;exact h);simp;omega
theorem put_le10 {n}(h:n<18446744073709551616):(put n).length<=10:=TR 9 n gd
theorem toNat_ofNat_lt {n}(h:n<256):(UInt8.ofNat n).toNat=n:=by
 simp[Nat.mod_eq_of_lt h]
def val:List UInt8->Nat
 | []=>0
 | c::r=>c.toNat % 128+128 * val r
def getL:Nat->Nat->List UInt8->Nat×Nat×Nat
 | _,_,[]=>(0,0,30)
 | i,acc,c::r=>
   if i=9/\1<c.toNat then (0,0,31)
   else if c.toNat<128 then (if c.toNat=0/\0<i then (0,0,31) else (acc+(c.toNat % 128) * 2^(7 * i),i+1,0))
   else getL (i+1) (acc+(c.toNat % 128) * 2^(7 * i)) r
def get (l:List UInt8):Nat×Nat×Nat:=getL 0 0 l
def Ab:List UInt8->Nat
 | []=>0
 | c::r=>if c.toNat<128 then 0 else Ab r+1
theorem NN (l):Ab l<=l.length:=by
 induction l with
 | nil=>simp[Ab]
 | cons c r ih=>simp only[Ab];split<;>simp;omega
theorem TS (r acc):getL 9 acc r=match r with
 | []=>(0,0,30)
 | c::_=>if 1<c.toNat then (0,0,31) else if c.toNat=0 then (0,0,31) else (acc+c.toNat * 2^63,10,0):=by
 cases r with
 | nil=>rfl
 | cons c r=>
   simp only[getL];by_cases h:1<c.toNat
   .simp[h]
   have h2:c.toNat<128:=gd;simp only[h,and_false,if_false,h2,if_true];by_cases h0:c.toNat=0
   .simp[h0]
   have:c.toNat=1:=gd;simp[this]
theorem TT (k):∀(i acc:Nat) (l:List UInt8),i+k=9 ->
 getL i acc l =
  if k<Ab l then (0,0,31)
  else if Ab l=l.length then (0,0,30)
  else if (Ab l=k/\1<(l.getD (Ab l) 0).toNat)\/((l.getD (Ab l) 0).toNat=0/\0<i+Ab l) then (0,0,31)
  else (acc+val (l.take (Ab l+1)) * 2^(7 * i),i+Ab l+1,0):=by
 induction k with
 | zero=>
   intro i acc l hi;obtain rfl:i=9:=gd;rw[TS];cases l with
   | nil=>simp[Ab]
   | cons c r=>
     simp only[Ab];by_cases h:c.toNat<128
     .simp only[AJ h];by_cases h1:1<c.toNat
      .simp[h1]
      by_cases h0:c.toNat=0
      .simp[h0]
      have:c.toNat=1:=gd;simp[this,val]
     have:1<c.toNat:=gd;simp[this,h]
 | succ k ih=>
   intro i acc l hi;cases l with
   | nil=>simp[getL,Ab]
   | cons c r=>
     simp only[getL,Ab];have h9:¬(i=9/\1<c.toNat):=gd;rw[AE h9];by_cases h:c.toNat<128
     .simp only[AJ h];by_cases h0:c.toNat=0/\0<i
      .simp[h0]
      have hm:c.toNat % 128=c.toNat:=gd;have G:¬(c.toNat=0/\0<i):=h0;simp[G,val,hm]
     simp only[AE h];rw[ih (i+1) _ r gd];have e1:(k<Ab r)↔(k+1<Ab r+1):=gd;have e2:(Ab r=r.length)↔(Ab r+1=(c::r).length):=gj;have e3:(c::r).getD (Ab r+1) 0=r.getD (Ab r) 0:=gj;have e4:(Ab r=k)↔(Ab r+1=k+1):=gd;have e5:(0<i+1+Ab r)↔(0<i+(Ab r+1)):=gd;rw[e3];simp only[<-e1,<-e2,<-e4,<-e5];split
     .rfl
     split
     .rfl
     split
     .rfl
     have ev:val ((c::r).take (Ab r+1+1))=c.toNat % 128+128 * val (r.take (Ab r+1)):=by simp[val]
     rw[ev];have ep:2^(7 * (i+1))=128 * 2^(7 * i):=by rw[Nat.mul_add,Nat.pow_add];omega
     rw[ep];simp only[Prod.mk.injEq,and_true];refine⟨?_,gd⟩;rw[Nat.add_mul,Nat.add_assoc];congr 2;rw[<-Nat.mul_assoc,Nat.mul_comm (val _) 128]
theorem JA (l):get l =
 if 9<Ab l then (0,0,31)
 else if Ab l=l.length then (0,0,30)
 else if (Ab l=9/\1<(l.getD (Ab l) 0).toNat)\/((l.getD (Ab l) 0).toNat=0/\0<Ab l) then (0,0,31)
 else (val (l.take (Ab l+1)),Ab l+1,0):=by
 unfold get;rw[TT 9 0 0 l rfl];simp
theorem NO:∀(l:List UInt8),Ab l<l.length->¬((l.getD (Ab l) 0).toNat=0/\0<Ab l)->put (val (l.take (Ab l+1)))=l.take (Ab l+1)
 | [],h,_=>by simp[Ab]at h
 | c::r,h,hz=>by
   simp only[Ab]at h hz ⊢;by_cases hc:c.toNat<128
   .simp only[AJ hc];simp only[BL,EL,List.take_zero,val];have:c.toNat % 128+128 * 0=c.toNat:=gd;rw[this,put_lt hc];simp
   simp only[AE hc]at h hz ⊢;have hr:Ab r<r.length:=by simpa using h
   have hg:(c::r).getD (Ab r+1) 0=r.getD (Ab r) 0:=gj;rw[hg]at hz;have G:(r.getD (Ab r) 0).toNat≠0:=λe=>hz ⟨e,gd⟩;have ih:=NO r hr (λe=>G e.1);have ev:val ((c::r).take (Ab r+1+1))=c.toNat % 128+128 * val (r.take (Ab r+1)):=by simp[val]
   rw[ev];have I:0<val (r.take (Ab r+1)):=val_pos r hr G;rw[put_ge gd];have O:=c.toNat_lt;have e1:(c.toNat % 128+128 * val (r.take (Ab r+1))) % 128+128=c.toNat:=gd;have e2:(c.toNat % 128+128 * val (r.take (Ab r+1)))/128=val (r.take (Ab r+1)):=gd;rw[e1,e2,ih];simp
where
 val_pos:∀(l:List UInt8),Ab l<l.length->(l.getD (Ab l) 0).toNat≠0->0<val (l.take (Ab l+1))
 | [],h,_=>by simp[Ab]at h
 | c::r,h,hz=>by
   simp only[Ab]at h hz ⊢;by_cases hc:c.toNat<128
   .simp only[AJ hc]at hz ⊢;simp at hz;simp only[BL,EL,List.take_zero,val];omega
   simp only[AE hc]at h hz ⊢;have hg:(c::r).getD (Ab r+1) 0=r.getD (Ab r) 0:=gj;rw[hg]at hz;have:=val_pos r (by simpa using h) hz;have ev:val ((c::r).take (Ab r+1+1))=c.toNat % 128+128 * val (r.take (Ab r+1)):=by simp[val]
   rw[ev];omega
theorem get_ok {l n k}(h:get l=(n,k,0)):put n=l.take k/\k<=l.length/\0<k:=by
 rw[JA]at h;have:=NN l;split at h
 .simp at h
 split at h
 .simp at h
 split at h
 .simp at h
 rename_i h1 h2 h3;simp only[Prod.mk.injEq,and_true]at h;obtain⟨rfl,rfl⟩:=h;exact⟨NO l gd (λe=>h3 (.inr e)),gd,gd⟩
theorem get_used (l):(get l).2.1<=10:=by
 rw[JA];split
 .simp
 split
 .simp
 split
 .simp
 simp;omega
end Var
theorem TU (m:Nat):bits BinOp.or .u8 ((m:Int) % 256) 128=((UInt8.ofNat (m % 128+128)).toNat:Int):=by
 rw[Var.toNat_ofNat_lt gd];have e:(m:Int) % 256=((m % 256:Nat):Int):=gd;rw[e];have h:=u8_or_nat (m % 256) 128 gd gd;have h2:m % 256 ||| 128=m % 128+128:=by
  rcases(show m % 256/128=0\/m % 256/128=1 by omega)with h4|h4
  .have:m % 256=m % 128:=gd;rw[this,Nat.or_comm,nat_join 7 128 (m % 128) gm gd];omega
  have h5:m % 256=128+m % 128:=gd;rw[h5,<-nat_join 7 128 (m % 128) gm gd,Nat.or_comm,<-Nat.or_assoc,Nat.or_self,nat_join 7 128 (m % 128) gm gd];omega
 rw[<-h2];exact h
theorem TV (m:Nat):Value.int .u8 (bits BinOp.or .u8 ((m:Int) % 256) 128)=DG (UInt8.ofNat (m % 128+128)):=by
 unfold DG;rw[TU]
theorem KY {m:Nat}(h:m<128):Value.int .u8 m=DG (UInt8.ofNat m):=by
 unfold DG;rw[Var.toNat_ofNat_lt gd]
theorem Eg (n w)(h0:0<=n)(h1:n<=18446744073709551615):
 Calls prog 153 #[il n] w (EA w (Var.put n.toNat)):=by
 obtain⟨N,rfl⟩:=Int.eq_ofNat_of_zero_le h0;rw[BM];have H1:=AB h1;clear h1 h0;go_enter func153,ntmps153;go_wp2;go_loopw [0,3] (λnv bv wr=>∃(m:Nat) (l:List UInt8),m<=N/\nv = il m/\ga (Var.put N=l++Var.put m)/\wr.ownsRow w.heap.size 5 1 bv l.length (AO l)/\Below w.heap.size w wr) (λnv _ _=>(intOf nv).toNat);case atStart=>exact⟨N,[],AD _,rfl,AB gj,Av _ _ _ _,AC _ _⟩
 case round=>
  obtain⟨m,l,hm,rfl,hp,I,hb⟩:=hrel;have:l.length+(Var.put m).length<=10:=by have h1:=Var.put_le10 (n:=N) (by have:=H1.o;omega);rw[hp.o]at h1;simpa using h1
  have:=Var.put_pos m;by_cases Z:128<=m
  .have ht:decide ((128:Int)<=(m:Int))=true:=gt;go_wp2_with (at_builtin;refine Aw _ As rfl _ _ rfl w.heap.size _ _ _ rfl (I.alloc _) (wr.heap.size+1) _ 1 1 _ rfl (Rd.lit wr 5 _ rfl gm) (Iv _ _) ?c2 ?c3 ?_)
   case c2=>omega
   case c3=>have:=hb.size;simp;omega
   intro v1 w1 G O T;have V:Below w.heap.size w w1:=Au (hb.alloc hb.size _) (AD _) (I.alloc _) O (by have:=hb.size;simp;omega);clear O T I hb;go_wp2;go_roundw;case rel=>
    refine⟨m/128,l++[UInt8.ofNat (m % 128+128)],gd,by go_num,AB (by rw[hp.o,Var.put_ge Z];simp),?_,V⟩;rw[TV]at G;simpa [AO]using G
   case measure=>simp[intOf];omega
  have ht:decide ((128:Int)<=(m:Int))=false:=gt;go_wp2_with (at_builtin;refine Aw _ As rfl _ _ rfl w.heap.size _ _ _ rfl (I.alloc _) (wr.heap.size+1) _ 1 1 _ rfl (Rd.lit wr 5 _ rfl gm) (Iv _ _) ?c2 ?c3 ?_)
  case c2=>omega
  case c3=>have:=hb.size;simp;omega
  intro v1 w1 G O T;have V:Below w.heap.size w w1:=Au (hb.alloc hb.size _) (AD _) (I.alloc _) O (by have:=hb.size;simp;omega);clear O T I hb;go_wp2;go_ret;refine⟨v1,rfl,?_,V⟩;rw[KY gd]at G;rw[hp.o,Var.put_lt gd];simpa [AO]using G
theorem NP (acc k x:Nat)(hk:k<=9)(hx:x<256)(hacc:acc<2^(7 * k))(h9:k=9->x<=1):
 bits BinOp.or .u64 (acc:Int) (IntKind.u64.wrap (IntKind.u64.wrap (bits BinOp.and .u8 (x:Int) 127) * 2^(7 * k)))=((acc+x % 128 * 2^(7 * k):Nat):Int):=by
 have e1:bits BinOp.and .u8 (x:Int) 127=((x % 128:Nat):Int):=by
  have:=u8_and_nat x 127 hx gd;rw[nat_mask7]at this;exact this
 rw[e1,IntWalk.u64_in ((x % 128:Nat):Int) ⟨gd,gd⟩];have e2:((x % 128:Nat):Int) * 2^(7 * k)=((x % 128 * 2^(7 * k):Nat):Int):=by
  rw[Int.natCast_mul,Int.natCast_pow];rfl
 have hb:x % 128 * 2^(7 * k)<=9223372036854775808:=by
  by_cases h:k=9
  .have:=h9 h;subst h;have:x % 128<=1:=gd;have:=Cc (2^(7 * 9)) this;omega
  have h1:2^(7 * k)<=2^56:=Nat.pow_le_pow_right gd gd;have h2:x % 128 * 2^(7 * k)<=127 * 2^56:=Nat.mul_le_mul gd h1;omega
 have ha:acc<9223372036854775808:=by
  have h1:2^(7 * k)<=2^63:=Nat.pow_le_pow_right gd gd;omega
 rw[e2,IntWalk.u64_in ((x % 128 * 2^(7 * k):Nat):Int) ⟨gd,gd⟩,u64_or_nat _ _ gd gd,Nat.or_comm,
  nat_join (7 * k) _ _ (Nat.mul_mod_left _ _) hacc,Nat.add_comm]
theorem TW (acc k x)(hacc:acc<2^(7 * k)):acc+x % 128 * 2^(7 * k)<2^(7 * (k+1)):=by
 have e:2^(7 * (k+1))=128 * 2^(7 * k):=by rw[Nat.mul_add,Nat.pow_add];omega
 have:x % 128 * 2^(7 * k)<=127 * 2^(7 * k):=Cc _ gd;rw[e];omega
theorem TX (l:List UInt8)(k x)(h:k<l.length)(hx:x=l[k]):l.drop k=x::l.drop (k+1):=by
 rw[List.drop_eq_getElem_cons h,hx]
def TY (w:World) (l:List UInt8) (e:Ending) (w':World):Prop:=
 e = .returned (.tuple #[il ((Var.get l).1:Int),io ((Var.get l).2.1:Int),io ((Var.get l).2.2:Int)])/\w=w'
structure Oth (b:Nat) (w w':World):Prop where
 os:w'.os=w.os
 tape:w'.tape=w.tape
 output:w'.output=w.output
 size:w.heap.size<=w'.heap.size
 block:∀k,k<w.heap.size->k≠b->w'.heap[k]? = w.heap[k]?
theorem Oth.refl (b w):Oth b w w:=⟨rfl,rfl,rfl,AD _,λ_ _ _=>rfl⟩
theorem Oth.trans {b u v w}(h:Oth b u v)(k:Oth b v w):Oth b u w:=
 ⟨k.os.trans h.os,k.tape.trans h.tape,k.output.trans h.output,AS h.size k.size,λi hi G=>(k.block i (AV hi h.size) G).trans (h.block i hi G)⟩
theorem Oth.of {b w w'}(h:Below w.heap.size w w'):Oth b w w':=⟨h.os,h.tape,h.output,h.size,λk hk _=>h.block k hk⟩
theorem Oth.drew {b u w}(h:Oth b u w):Oth b u w.drew:=⟨h.os,h.tape,h.output,h.size,h.block⟩
theorem Oth.alloc {b u w}(h:Oth b u w)(o):Oth b u (w.alloc o):=h.trans (.of ((AC _ _).alloc (AD _) o))
theorem Oth.set {b u w}(h:Oth b u w)(j x):Oth b u (w.setCell (gX b j) x):=
 h.trans ⟨rfl,rfl,rfl,by simp[World.setCell],λk _ G=>Below.heap_setCell _ _ _ _ G⟩
theorem Oth.setNew {b u w}(h:Oth b u w){p}(hp:u.heap.size<=p.block)(x):Oth b u (w.setCell p x):=
 ⟨h.os,h.tape,h.output,by simp[World.setCell];exact h.size,λk hk G=>(Below.heap_setCell _ _ _ _ gd).trans (h.block k hk G)⟩
theorem Oth.cell {b w w'}(h:Oth b w w'){p}(hp:p.block<w.heap.size)(hne:p.block≠b):w'.cell? p=w.cell? p:=DE (w:=w) (h.block p.block hp hne)
theorem Oth.frozen {b w w'}(h:Oth b w w'){p}(hp:p.block<w.heap.size)(hne:p.block≠b):w'.frozen? p=w.frozen? p:=EY (w:=w) (h.block p.block hp hne)
theorem Oth.below {b w w'}(h:Oth b w w')(hb:b<=w.heap.size):Below b w w':=⟨h.os,h.tape,h.output,h.size,λk hk=>h.block k gd gd⟩
theorem FT {base b w w' v n xs e sz}(h:w.ownsRow base e sz v n xs)(ho:Oth b w w')(hb:b<base):w'.ownsRow base e sz v n xs:=by
 refine h.kept (row:=some b) ⟨ho.os,ho.tape,ho.output,ho.size,λk hk G=>ho.block k hk (λq=>G (by rw[q]))⟩ ?_;cases hv:v.ownBlock with
 | none=>exact .inl rfl
 | some k=>
   refine .inr λq=>?_;have:=(h.lt k hv).1;injection q with q;omega
theorem JC {w B c A l}(hr:Rd w B 1 A l.length c (AO l)){lo}(hlo:lo<=l.length):∃A2 l2,l2=l.drop lo /\
 (∀k W,(Instr.sliceAt 55 (.slice A l.length c) (some (.int k (lo:Int))) none none).run prog W = .ok (.slice A2 l2.length (c-lo)) W) /\
 (∀k W,(Instr.slice 55 (.slice A l.length c) (some (.int k (lo:Int))) none none).run prog W = .ok (.slice A2 l2.length (c-lo)) W)/\Rd w B 1 A2 l2.length (c-lo) (AO l2):=by
 refine⟨(if c=lo then A else A.map (·.add (lo * 1))),l.drop lo,rfl,λk W=>?_,λk W=>?_,?_⟩
 .rw[F6];exact Iu As A l.length c k (lo:Int) lo rfl hlo hr.le W
 .rw[F6];exact I9 As A l.length c k (lo:Int) lo rfl hlo hr.le W
 have:=hr.cut hlo (AD _);rw[F6];rw[CF (by simp[AO])]at this;simpa [AO,List.map_drop]using this
structure RdrA (w:World) (b:Nat) (A:Option Addr) (c:Nat) (l:List UInt8) (e:Nat):Prop where
 c0:w.cell? ⟨b,0,none⟩=some (.slice A l.length c)
 c1:w.cell? ⟨b,1,none⟩=some (io e)
 f0:w.frozen? ⟨b,0,none⟩=false
 f1:w.frozen? ⟨b,1,none⟩=false
 z:b<w.heap.size
 rd:Rd w b 1 A l.length c (AO l)
section
variable {w w':World} {b c:Nat} {A:Option Addr} {l:List UInt8} {e:Nat}
theorem RdrA.keep (h:RdrA w b A c l e)(hb:Below w.heap.size w w'):RdrA w' b A c l e where
 c0:=(hb.cell (p:=gX b 0) h.z).trans h.c0
 c1:=(hb.cell (p:=gX b 1) h.z).trans h.c1
 f0:=(hb.frozen (p:=gX b 0) h.z).trans h.f0
 f1:=(hb.frozen (p:=gX b 1) h.z).trans h.f1
 z:=AV h.z hb.size
 rd:=h.rd.below' hb (Ad h.z)
theorem RdrA.elsewhere (h:RdrA w b A c l e){p}(hp:b<p.block)(x):RdrA (w.setCell p x) b A c l e:=by
 have:∀j,(⟨b,j,none⟩:Addr)≠p:=λj q=>by subst q;exact Nat.lt_irrefl _ hp
 have hB:Below p.block w (w.setCell p x):=(AC _ _).setCell (AD _) x;exact⟨(hB.cell (p:=gX b 0) hp).trans h.c0,(hB.cell (p:=gX b 1) hp).trans h.c1,(hB.frozen (p:=gX b 0) hp).trans h.f0,(hB.frozen (p:=gX b 1) hp).trans h.f1,
  by simpa using h.z,h.rd.below' hB (Ad hp)⟩
theorem RdrA.set0 (h:RdrA w b A c l e){A2 c2 l2}(hr:Rd w b 1 A2 l2.length c2 (AO l2)):RdrA (w.setCell (gX b 0) (.slice A2 l2.length c2)) b A2 c2 l2 e:=by
 have:=h.c0;have:=h.c1;have:=h.f0;have:=h.f1;exact⟨by go_simp,by go_simp,by go_simp,by go_simp,by simpa using h.z,hr.below ((AC b w).setCell (p:=gX b 0) (AD _) _)⟩
theorem RdrA.set1 (h:RdrA w b A c l e)(e2:Nat):RdrA (w.setCell (gX b 1) (io e2)) b A c l e2:=by
 have:=h.c0;have:=h.c1;have:=h.f0;have:=h.f1;exact⟨by go_simp,by go_simp,by go_simp,by go_simp,by simpa using h.z,h.rd.below ((AC b w).setCell (p:=gX b 1) (AD _) _)⟩
end
theorem TZ (w){c A l}(hr:Rd w w.heap.size 1 A l.length c (AO l))(t):RdrA (w.alloc (.cells #[.slice A l.length c,io 0] t)) w.heap.size A c l 0:=by
 have x:=Dc w #[.slice A l.length c,io 0] t;exact⟨x.cell 0 _ rfl,x.cell 1 _ rfl,x.free 0,x.free 1,by rw[x.size];omega,hr.below x.below⟩
abbrev RdN:=Nat×List UInt8×Nat
def num (most:Nat) (l:List UInt8) (e:Nat):RdN:=
 if e≠0 then (0,l,e) else if (Var.get l).2.2≠0 then (0,l,(Var.get l).2.2) else if most<(Var.get l).1 then (0,l,40) else ((Var.get l).1,l.drop (Var.get l).2.1,0)
theorem Ta {most l e}(h:e≠0):num most l e=(0,l,e):=by unfold num;rw[AJ h]
theorem Tc {most l}(h:(Var.get l).2.2≠0):num most l 0=(0,l,(Var.get l).2.2):=by unfold num;rw[AE gj,AJ h]
theorem Td {most l}(h:(Var.get l).2.2=0)(h2:most<(Var.get l).1):num most l 0=(0,l,40):=by unfold num;rw[AE gj,AE (by simp[h]),AJ h2]
theorem NQ {most l}(h:(Var.get l).2.2=0)(h2:¬most<(Var.get l).1):num most l 0=((Var.get l).1,l.drop (Var.get l).2.1,0):=by unfold num;rw[AE gj,AE (by simp[h]),AE h2]
theorem GW (most l e):(num most l e).1<=most:=by
 unfold num;split
 .simp
 split
 .simp
 split
 .simp
 omega
theorem Te (most l e):(num most l e).2.1.length<=l.length:=by
 unfold num;split
 .simp
 split
 .simp
 split
 .simp
 simp
def DA (r:RdN):Nat:=if r.2.2=0/\r.2.1.length<r.1 then 30 else r.2.2
def Ey (r:RdN):ByteArray:=if DA r=0 then ⟨(r.2.1.take r.1).toArray⟩ else ByteArray.empty
def Dd (r:RdN):List UInt8:=if DA r=0 then r.2.1.drop r.1 else r.2.1
def rdF (l:List UInt8) (e:Nat):Fd×List UInt8×Nat:=
 let a:=num 4294967295 l e
 let s:=num 16 a.2.1 a.2.2
 let k:=num 255 (Dd s) (DA s)
 let q:=num 1 k.2.1 k.2.2
 (⟨UInt32.ofNat a.1,Ey s,UInt8.ofNat k.1,decide (q.1=1)⟩,q.2.1,q.2.2)
def DI:Nat->List UInt8->Nat->List Fd->List Fd×List UInt8×Nat
 | 0,l,e,acc=>(acc,l,e)
 | n+1,l,e,acc=>if e≠0 then (acc,l,e) else DI n (rdF l e).2.1 (rdF l e).2.2 (acc++[(rdF l e).1])
structure RdS where
 id:UInt32
 fs:List Fd
 left:List UInt8
 err:Nat
def rdS (l:List UInt8) (e:Nat):RdS:=
 let a:=num 4294967295 l e
 let n:=num 8 a.2.1 a.2.2
 let r:=DI n.1 n.2.1 n.2.2 []
 ⟨UInt32.ofNat a.1,r.1,r.2.1,if r.2.2=0 then check (UInt32.ofNat a.1) r.1 else r.2.2⟩
def Tf (w:World) (b:Nat) (r:RdN) (e:Ending) (w':World):Prop:=
 e = .returned (il (r.1:Int))/\(∃A c,RdrA w' b A c r.2.1 r.2.2)/\Oth b w w'
structure dH (w:World) (b:Nat) (cs:List Value):Prop where
 cell:∀j v,cs[j]? = some v->w.cell? ⟨b,j,none⟩=some v
 free:∀j,j<cs.length->w.frozen? ⟨b,j,none⟩=false
 z:b<w.heap.size
section
variable {w w':World} {b:Nat} {cs:List Value}
theorem dH.c2 {a0 a1 l}(h:dH w b (a0::a1::l)):w.cell? (gX b 0)=some a0/\w.cell? (gX b 1)=some a1:=⟨h.cell 0 _ rfl,h.cell 1 _ rfl⟩
theorem dH.c3 {a0 a1 a2 l}(h:dH w b (a0::a1::a2::l)):w.cell? (gX b 0)=some a0/\w.cell? (gX b 1)=some a1/\w.cell? (gX b 2)=some a2:=⟨h.cell 0 _ rfl,h.cell 1 _ rfl,h.cell 2 _ rfl⟩
theorem dH.c4 {a0 a1 a2 a3 l}(h:dH w b (a0::a1::a2::a3::l)):w.cell? (gX b 0)=some a0/\w.cell? (gX b 1)=some a1/\w.cell? (gX b 2)=some a2/\w.cell? (gX b 3)=some a3:=⟨h.cell 0 _ rfl,h.cell 1 _ rfl,h.cell 2 _ rfl,h.cell 3 _ rfl⟩
theorem dH.c5 {a0 a1 a2 a3 a4 l}(h:dH w b (a0::a1::a2::a3::a4::l)):w.cell? (gX b 0)=some a0/\w.cell? (gX b 1)=some a1/\w.cell? (gX b 2)=some a2/\w.cell? (gX b 3)=some a3/\w.cell? (gX b 4)=some a4:=⟨h.cell 0 _ rfl,h.cell 1 _ rfl,h.cell 2 _ rfl,h.cell 3 _ rfl,h.cell 4 _ rfl⟩
theorem dH.c6 {a0 a1 a2 a3 a4 a5 l}(h:dH w b (a0::a1::a2::a3::a4::a5::l)):w.cell? (gX b 0)=some a0/\w.cell? (gX b 1)=some a1/\w.cell? (gX b 2)=some a2/\w.cell? (gX b 3)=some a3/\w.cell? (gX b 4)=some a4/\w.cell? (gX b 5)=some a5:=⟨h.cell 0 _ rfl,h.cell 1 _ rfl,h.cell 2 _ rfl,h.cell 3 _ rfl,h.cell 4 _ rfl,h.cell 5 _ rfl⟩
theorem dH.c7 {a0 a1 a2 a3 a4 a5 a6 l}(h:dH w b (a0::a1::a2::a3::a4::a5::a6::l)):w.cell? (gX b 0)=some a0/\w.cell? (gX b 1)=some a1/\w.cell? (gX b 2)=some a2/\w.cell? (gX b 3)=some a3/\w.cell? (gX b 4)=some a4/\w.cell? (gX b 5)=some a5/\w.cell? (gX b 6)=some a6:=⟨h.cell 0 _ rfl,h.cell 1 _ rfl,h.cell 2 _ rfl,h.cell 3 _ rfl,h.cell 4 _ rfl,h.cell 5 _ rfl,h.cell 6 _ rfl⟩
theorem dH.c8 {a0 a1 a2 a3 a4 a5 a6 a7 l}(h:dH w b (a0::a1::a2::a3::a4::a5::a6::a7::l)):w.cell? (gX b 0)=some a0/\w.cell? (gX b 1)=some a1/\w.cell? (gX b 2)=some a2/\w.cell? (gX b 3)=some a3/\w.cell? (gX b 4)=some a4/\w.cell? (gX b 5)=some a5/\w.cell? (gX b 6)=some a6/\w.cell? (gX b 7)=some a7:=⟨h.cell 0 _ rfl,h.cell 1 _ rfl,h.cell 2 _ rfl,h.cell 3 _ rfl,h.cell 4 _ rfl,h.cell 5 _ rfl,h.cell 6 _ rfl,h.cell 7 _ rfl⟩
theorem dH.f2 {a0 a1 l}(h:dH w b (a0::a1::l)):w.frozen? ⟨b,0,none⟩=false/\w.frozen? ⟨b,1,none⟩=false:=⟨h.free 0 gj,h.free 1 gj⟩
theorem dH.f3 {a0 a1 a2 l}(h:dH w b (a0::a1::a2::l)):w.frozen? ⟨b,0,none⟩=false/\w.frozen? ⟨b,1,none⟩=false/\w.frozen? ⟨b,2,none⟩=false:=⟨h.free 0 gj,h.free 1 gj,h.free 2 gj⟩
theorem dH.f4 {a0 a1 a2 a3 l}(h:dH w b (a0::a1::a2::a3::l)):w.frozen? ⟨b,0,none⟩=false/\w.frozen? ⟨b,1,none⟩=false/\w.frozen? ⟨b,2,none⟩=false/\w.frozen? ⟨b,3,none⟩=false:=⟨h.free 0 gj,h.free 1 gj,h.free 2 gj,h.free 3 gj⟩
theorem dH.f5 {a0 a1 a2 a3 a4 l}(h:dH w b (a0::a1::a2::a3::a4::l)):w.frozen? ⟨b,0,none⟩=false/\w.frozen? ⟨b,1,none⟩=false/\w.frozen? ⟨b,2,none⟩=false/\w.frozen? ⟨b,3,none⟩=false/\w.frozen? ⟨b,4,none⟩=false:=⟨h.free 0 gj,h.free 1 gj,h.free 2 gj,h.free 3 gj,h.free 4 gj⟩
theorem dH.f7 {a0 a1 a2 a3 a4 a5 a6 l}(h:dH w b (a0::a1::a2::a3::a4::a5::a6::l)):w.frozen? ⟨b,0,none⟩=false/\w.frozen? ⟨b,1,none⟩=false/\w.frozen? ⟨b,2,none⟩=false/\w.frozen? ⟨b,3,none⟩=false/\w.frozen? ⟨b,4,none⟩=false/\w.frozen? ⟨b,5,none⟩=false/\w.frozen? ⟨b,6,none⟩=false:=⟨h.free 0 gj,h.free 1 gj,h.free 2 gj,h.free 3 gj,h.free 4 gj,h.free 5 gj,h.free 6 gj⟩
theorem AP (w:World)(cs t):dH (w.alloc (.cells cs t)) w.heap.size cs.toList:=by
 have x:=Dc w cs t;exact⟨λj v h=>x.cell j v (by simpa using h),λj _=>x.free j,by rw[x.size];omega⟩
theorem gZ (w cs t):dH (w.alloc (.cells cs t)) w.heap.size cs.toList/\Below w.heap.size w (w.alloc (.cells cs t)):=⟨AP w cs t,(Below.refl w.heap.size w).alloc (Nat.le_refl _) _⟩
theorem dH.keep (h:dH w b cs){B}(hb:Below B w w')(hz:b<B):dH w' b cs:=
 ⟨λj v hj=>(hb.cell (p:=gX b j) hz).trans (h.cell j v hj),λj hj=>(hb.frozen (p:=gX b j) hz).trans (h.free j hj),AV h.z hb.size⟩
theorem dH.oth (h:dH w b cs){b2}(ho:Oth b2 w w')(hne:b≠b2):dH w' b cs:=
 ⟨λj v hj=>(ho.cell (p:=gX b j) h.z hne).trans (h.cell j v hj),λj hj=>(ho.frozen (p:=gX b j) h.z hne).trans (h.free j hj),AV h.z ho.size⟩
theorem dH.set (h:dH w b cs){j}(x){u}(hj:cs[j]? = some u):dH (w.setCell (gX b j) x) b (cs.set j x):=by
 have cu:=h.cell j u hj;have I:j<cs.length:=(FP.1 hj).1;refine⟨λi v hi=>?_,λi hi=>?_,by simpa using h.z⟩
 .by_cases G:j=i
  .subst G;have:v=x:=by rw[List.getElem?_set_self I]at hi;exact(EW hi).symm
   subst this;go_simp
  rw[List.getElem?_set_ne G]at hi;rw[Gw]
  .exact h.cell i v hi
  intro q;injection q with _ q;exact G q
 have:=h.free i (by simpa using hi);go_simp
theorem dH.else (h:dH w b cs){p}(hp:p.block≠b)(x):dH (w.setCell p x) b cs:=by
 refine⟨λi v hi=>?_,λi hi=>?_,by simpa using h.z⟩
 .rw[Gw]
  .exact h.cell i v hi
  intro q;exact hp (by rw[q])
 have:=h.free i hi;go_simp
end
theorem RdrA.keepB {w w' b c A l e B}(h:RdrA w b A c l e)(hb:Below B w w')(hz:b<B):RdrA w' b A c l e where
 c0:=(hb.cell (p:=gX b 0) hz).trans h.c0
 c1:=(hb.cell (p:=gX b 1) hz).trans h.c1
 f0:=(hb.frozen (p:=gX b 0) hz).trans h.f0
 f1:=(hb.frozen (p:=gX b 1) hz).trans h.f1
 z:=AV h.z hb.size
 rd:=h.rd.below' hb (Ad hz)
theorem Oth.belowB {b B w w'}(h:Oth b w w')(hB:B<=b)(hz:B<=w.heap.size):Below B w w':=⟨h.os,h.tape,h.output,h.size,λk hk=>h.block k gd gd⟩
def uId (l:List UInt8):UInt32:=if (rdS l 0).err=0 then (rdS l 0).id else 0
def uFs (l:List UInt8):List Fd:=if (rdS l 0).err=0 then (rdS l 0).fs else []
def EO (l:List UInt8):List UInt8:=if (rdS l 0).err=0 then (rdS l 0).left else []
theorem NR {fn p u u2 ty}(h:fn.results=#[.cell p ty,.tmp u,.tmp u2])(tmps P w):
 (results fn tmps).run P w =
   ((asAddr (tmps.getD p undef)).run P w).andThen λa w₁=>((loadVar ty a).run P w₁).andThen λv w₂=>.ok (.tuple #[v,tmps.getD u undef,tmps.getD u2 undef]) w₂:=by
 simp only[results,h];simp[Sem.run_bind,Result.andThen]
theorem JD {fn p u u2}(h:fn.results=#[.cell p 33,.tmp u,.tmp u2])(tmps w){b x y}(hp:tmps.getD p undef = iq b 0)(c0:w.cell? (gX b 0)=some x)(c1:w.cell? (gX b 1)=some y):
 (results fn tmps).run prog w = .ok (.tuple #[.agg #[x,y],tmps.getD u undef,tmps.getD u2 undef]) w:=by
 rw[NR h,hp];have:=KX w b x y c0 c1;simp[asAddr,Result.andThen,this]
theorem IJ {fn p ty}(h:fn.results=#[.cell p ty])(tmps P w):
 (results fn tmps).run P w =
   ((asAddr (tmps.getD p undef)).run P w).andThen λa w₁=>(loadVar ty a).run P w₁:=by
 simp only[results,h];simp[Sem.run_bind,Result.andThen]
structure GU (w0:World) (B0 br bs:Nat) (uid:UInt32) (A:Option Addr) (c:Nat) (l:List UInt8) (e:Nat) (fA:Option Addr) (fc:Nat) (fs:List Fd) (wr:World):Prop where
 rd:RdrA wr br A c l e
 bx:dH wr bs [im uid.toNat,.slice fA fs.length fc]
 own:wr.ownsRow (bs+1) 89 4 (.slice fA fs.length fc) fs.length (AZ fs)
 rb:dH wr B0 [im 0,ir]
 oth:Oth br w0 wr
 o1:br<bs
 o2:B0<bs
 o3:B0≠br
 o4:w0.heap.size<=bs
section
variable {w0 wr w7:World} {B0 br bs c fc e:Nat} {uid:UInt32} {A fA:Option Addr} {l:List UInt8} {fs:List Fd}
theorem GU.go (h:GU w0 B0 br bs uid A c l e fA fc fs wr){A2 c2 l2 e2}(hr:RdrA w7 br A2 c2 l2 e2)(ho:Oth br wr w7):GU w0 B0 br bs uid A2 c2 l2 e2 fA fc fs w7:=
 ⟨hr,h.bx.oth ho (by have:=h.o1;omega),FT h.own ho (by have:=h.o1;omega),h.rb.oth ho h.o3,h.oth.trans ho,h.o1,h.o2,h.o3,h.o4⟩
theorem GU.lit (h:GU w0 B0 br bs uid A c l e fA fc fs wr)(f){cs}(hcs:cs.toList=fdV f)(hs:cs.size=1 * 4):
 (wr.alloc (.cells cs 89)).ownsRow (bs+1) 89 4 (.slice fA fs.length fc) fs.length (AZ fs)/\Rd (wr.alloc (.cells cs 89)) (wr.heap.size+1) 4 (gY wr.heap.size 0) 1 1 (fdV f):=by
 refine⟨h.own.alloc _,?_⟩;have:=Rd.lit wr 89 cs (n:=1) (sz:=4) hs gm;rw[hcs]at this;exact this
theorem GU.grown (h:GU w0 B0 br bs uid A c l e fA fc fs wr){f cs w8 v}(hown:w8.ownsRow (bs+1) 89 4 v (fs.length+1) (AZ fs++fdV f))(hg:(wr.alloc (.cells cs 89)).grownBy w8 (Value.slice fA fs.length fc).ownBlock):
 ∃g cap,v = .slice (gY g 0) (fs.length+1) cap/\w8.cell? (gX bs 1)=some (.slice fA fs.length fc)/\w8.frozen? ⟨bs,1,none⟩=false /\
  GU w0 B0 br bs uid A c l e (gY g 0) cap (fs++[f]) (w8.setCell (gX bs 1) (.slice (gY g 0) (fs.length+1) cap)):=by
 have:=h.bx.z;have h1:=h.o1;have h2:=h.o2;have hb:Below (bs+1) wr w8:=Au ((AC (bs+1) wr).alloc gd (.cells cs 89)) (AD _) (h.own.alloc _) hg gt;obtain⟨g,cap,rfl,_,_⟩:=hown.form (Nat.succ_pos _);have bx:=h.bx.keep hb (E9 bs);have e1:(fs++[f]).length=fs.length+1:=gj;have e2:AZ fs++fdV f=AZ (fs++[f]):=by rw[KR];simp[AZ]
 refine⟨g,cap,rfl,bx.cell 1 _ rfl,bx.free 1 gj,?_,?_,?_,?_,?_,h1,h2,h.o3,h.o4⟩
 .exact(h.rd.keepB hb gd).elsewhere h1 _
 .rw[e1];exact bx.set _ rfl
 .rw[e1,<-e2];exact B6 hown (E9 _) _
 .exact(h.rb.keep hb gd).else (by show bs≠B0;omega) _
 refine Oth.setNew ?_ h.o4 _;have ho:=h.oth;exact⟨hb.os.trans ho.os,hb.tape.trans ho.tape,hb.output.trans ho.output,AS ho.size hb.size,λk hk G=>(hb.block k (by have:=h.o4;omega)).trans (ho.block k hk G)⟩
theorem GU.rdF (h:GU w0 B0 br bs uid A c l e fA fc fs wr):Rd wr wr.heap.size 4 fA fs.length fc (AZ fs):=by
 obtain⟨A',c',q,hr⟩:=Rd.of_own h.own;injection q with q1 q2 q3;subst q1 q3;exact hr
theorem GU.call (h:GU w0 B0 br bs uid A c l e fA fc fs wr)(hb:Below wr.heap.size wr w7):GU w0 B0 br bs uid A c l e fA fc fs w7:=h.go (h.rd.keep hb) (.of hb)
theorem GU.why (h:GU w0 B0 br bs uid A c l e fA fc fs wr)(e2):GU w0 B0 br bs uid A c l e2 fA fc fs (wr.setCell (gX br 1) (io e2)):=h.go (h.rd.set1 e2) ((Oth.refl br wr).set 1 _)
theorem GU.fin (h:GU w0 B0 br bs uid A c l e fA fc fs wr)(x y):
 Rd ((wr.setCell (gX B0 0) x).setCell (gX B0 1) y) ((wr.setCell (gX B0 0) x).setCell (gX B0 1) y).heap.size 4 fA fs.length fc (AZ fs)/\(br<B0->RdrA ((wr.setCell (gX B0 0) x).setCell (gX B0 1) y) br A c l e) /\
  (w0.heap.size<=B0->Oth br w0 ((wr.setCell (gX B0 0) x).setCell (gX B0 1) y))/\((wr.setCell (gX B0 0) x).setCell (gX B0 1) y).cell? (gX B0 0)=some x/\((wr.setCell (gX B0 0) x).setCell (gX B0 1) y).cell? (gX B0 1)=some y:=by
 have h2:=h.o2;obtain⟨q0,q1⟩:=BZ wr B0 _ _ x y (h.rb.cell 0 _ rfl) (h.rb.cell 1 _ rfl);refine⟨?_,λhz=>(h.rd.elsewhere (p:=gX B0 0) hz x).elsewhere (p:=gX B0 1) hz y,λhz=>(h.oth.setNew (p:=gX B0 0) hz x).setNew (p:=gX B0 1) hz y,q0,q1⟩;obtain⟨A',c',q,hr⟩:=Rd.of_own (B6 (B6 h.own (a:=gX B0 0) (Nat.lt_succ_of_lt h2) x) (a:=gX B0 1) (Nat.lt_succ_of_lt h2) y);injection q with q1 q2 q3;subst q1 q3;exact hr
end
theorem JE {l l1 l3 l4 e1 e3 e4 q fid kd r}(h1:num 4294967295 l 0=(fid.toNat,l1,e1))(h2:num 16 l1 e1=r)(h3:num 255 (Dd r) (DA r)=(kd.toNat,l3,e3))(h4:num 1 l3 e3=(q,l4,e4)):
 rdF l 0=(⟨fid,Ey r,kd,decide (q=1)⟩,l4,e4):=by
 unfold rdF;simp only[h1,h2,h3,h4,UInt32.ofNat_toNat,UInt8.ofNat_toNat]
theorem KZ {l l1 l2 l' er e1 e2 e' N id fs}(hA:(id.toNat,l1,e1)=num 4294967295 l er)(hN:(N,l2,e2)=num 8 l1 e1)(hQ:DI N l2 e2 []=(fs,l',e')):
 rdS l er=⟨id,fs,l',if e'=0 then check id fs else e'⟩:=by
 unfold rdS;simp only[<-hA,<-hN,hQ,UInt32.ofNat_toNat]
def GUR (w0:World) (B0 br bs:Nat) (uid:UInt32) (R:List Fd×List UInt8×Nat) (nv:Value) (wr:World):Prop:=
 ∃(m:Nat) (A:Option Addr) (c:Nat) (l:List UInt8) (e:Nat) (fA:Option Addr) (fc:Nat) (fs:List Fd),nv = il m/\m+fs.length<=8/\ga (DI m l e fs=R)/\GU w0 B0 br bs uid A c l e fA fc fs wr
theorem NS {m l e fs}(h:m=0\/e≠0):DI m l e fs=(fs,l,e):=by
 cases m with
 | zero=>rfl
 | succ m=>unfold DI;rw[AJ gd]
theorem NT {m l fs}:DI (m+1) l 0 fs=DI m (rdF l 0).2.1 (rdF l 0).2.2 (fs++[(rdF l 0).1]):=by
 rw[DI,AE gj]
theorem Ti {r}(h:r.2.2≠0):DA r=r.2.2/\Ey r=ByteArray.empty/\Dd r=r.2.1:=by
 have h1:DA r=r.2.2:=by unfold DA;rw[AE gd]
 refine⟨h1,?_,?_⟩
 .unfold Ey;rw[AE gd]
 unfold Dd;rw[AE gd]
theorem Tj {r}(h:r.2.2=0)(h2:r.2.1.length<r.1):DA r=30/\Ey r=ByteArray.empty/\Dd r=r.2.1:=by
 have h1:DA r=30:=by unfold DA;rw[AJ ⟨h,h2⟩]
 refine⟨h1,?_,?_⟩
 .unfold Ey;rw[AE gd]
 unfold Dd;rw[AE gd]
theorem NU {r}(h:r.2.2=0)(h2:¬r.2.1.length<r.1):DA r=0/\Ey r=⟨(r.2.1.take r.1).toArray⟩/\Dd r=r.2.1.drop r.1:=by
 have h1:DA r=0:=by unfold DA;rw[AE gd,h]
 refine⟨h1,?_,?_⟩
 .unfold Ey;rw[AJ h1]
 unfold Dd;rw[AJ h1]
theorem Tk {w B c A l}(hr:Rd w B 1 A l.length c (AO l)){hi}(hhi:hi<=l.length):
 (∀k W,(Instr.sliceAt 55 (.slice A l.length c) none (some (.int k (hi:Int))) none).run prog W = .ok (.slice A hi c) W) /\
 (∀k W,(Instr.slice 55 (.slice A l.length c) none (some (.int k (hi:Int))) none).run prog W = .ok (.slice A hi c) W) /\
 Rd w B 1 A hi c (AO (l.take hi)):=by
 have hc:hi<=c:=AS hhi hr.le;refine⟨λk W=>EN As A l.length c k (hi:Int) hi rfl hc W,λk W=>Ev As A l.length c k (hi:Int) hi rfl hc W,?_⟩;have:=hr.pre hhi;simpa [AO,List.map_take]using this
def ixA {α:Type} (p : α->Bool) (l:List α):Int:=if l.any p then (l.findIdx p:Int) else -1
theorem IK {α:Type}{p : α->Bool}{l:List α}:decide ((0:Int)<=ixA p l)=l.any p:=by
 unfold ixA;cases l.any p<;>simp
section
variable {α:Type} [Inhabited α] {p : α->Bool} {l:List α}
theorem FA {k}(hk:k<l.length)(h:p (l.getD k default)=true)(hn:∀j,j<k->p (l.getD j default)=false):ixA p l=(k:Int):=by
 have G:p l[k]=true:=by simpa [List.getD,hk]using h
 have ha:l.any p=true:=List.any_eq_true.2 ⟨l[k],List.getElem_mem hk,G⟩;unfold ixA;rw[AJ ha];congr 1;rw[List.findIdx_eq hk];refine⟨G,λj hj=>?_⟩;have:=hn j hj;simpa [List.getD,show j<l.length by omega]using this
theorem Tl (h:∀j,j<l.length->p (l.getD j default)=false):l.any p=false:=by
 rw[List.any_eq_false];intro f hf;obtain⟨j,hj,rfl⟩:=EZ.1 hf;have:=h j hj;simp[List.getD,hj]at this;simp[this]
theorem Fs (h:∀j,j<l.length->p (l.getD j default)=false):ixA p l = -1:=by
 unfold ixA;rw[Tl h];rfl
theorem Ka {i}(h:ixA p l=i)(h0:0<=i):i.toNat<l.length/\i=(i.toNat:Int)/\p (l.getD i.toNat default)=true:=by
 unfold ixA at h;split at h
 .rename_i ha;have hl:=List.findIdx_lt_length_of_exists (p:=p) (xs:=l) (by simpa using ha);subst h;refine⟨by simpa using hl,gj,?_⟩;rw[BM];have:=List.findIdx_getElem (p:=p) (xs:=l) (w:=hl);simpa [List.getD,hl]using this
 omega
end
theorem Kb {α:Type}(enc : α->List Value)(k)(hk:∀a,(enc a).length=k):∀(l:List α) (i j:Nat) (hi:i<l.length),j<k->(l.flatMap enc)[i * k+j]? = (enc l[i])[j]?
 | a::l,0,j,_,hj=>by
   rw[List.flatMap_cons,List.getElem?_append_left (by rw[hk];omega)];simp
 | a::l,i+1,j,hi,hj=>by
   rw[List.flatMap_cons,It (by rw[hk];rw[Nat.succ_mul];omega),hk];rw[show(i+1) * k+j-k=i * k+j by rw[Nat.succ_mul];omega];exact Kb enc k hk l i j (by simpa using hi) hj
theorem IL {α:Type}(enc : α->List Value)(k)(hk:∀a,(enc a).length=k)(l:List α):(l.flatMap enc).length=l.length * k:=by
 induction l with
 | nil=>simp
 | cons a l ih=>rw[List.flatMap_cons,AR,ih,hk,Bg,Nat.succ_mul];omega
theorem Rd.el {α:Type}[Inhabited α](enc : α->List Value)(k)(hk:∀a,(enc a).length=k){w B n c A}{l:List α}(h:Rd w B k A n c (l.flatMap enc)){i}(hi:i<l.length)(hk0:0<k):
 ∃b off,A=some ⟨b,off,none⟩/\b<B/\∀j v,(enc (l.getD i default))[j]? = some v->w.cell? (gX b (off+i * k+j))=some v:=by
 have hn:n=l.length:=by
  have:=h.len;rw[IL enc k hk]at this;exact(Nat.eq_of_mul_eq_mul_right hk0 this).symm
 obtain⟨b,off,rfl,hb,hc⟩:=h.at_ gd;refine⟨b,off,rfl,hb,λj v hj=>?_⟩;rw[Nat.add_assoc];refine hc _ v ?_;have G:j<k:=by
  have:=(FP.1 hj).1;rw[hk]at this;exact this
 rw[Kb enc k hk l i j hi G,<-hj];simp[List.getD,hi]
theorem Rd.lenA {α:Type}(enc : α->List Value)(k)(hk:∀a,(enc a).length=k){w B n c A}{l:List α}(h:Rd w B k A n c (l.flatMap enc))(hk0:0<k):n=l.length:=by
 have:=h.len;rw[IL enc k hk]at this;exact(Nat.eq_of_mul_eq_mul_right hk0 this).symm
structure Sn where
 id:UInt64
 par:UInt64
 seq:UInt64
 off:UInt64
 tim:UInt64
 sch:UInt32
 ms:List ByteArray
abbrev dO (p : Sn) (A : Option Addr) (c : Nat) : Array Value:= #[il p.id.toNat,il p.par.toNat,il p.seq.toNat,il p.off.toNat,il p.tim.toNat,im p.sch.toNat,.slice A p.ms.length c]
instance:Inhabited Sn:=⟨⟨0,0,0,0,0,0,[]⟩⟩
structure Nl where
 p:Sn
 A:Option Addr
 c:Nat
instance:Inhabited Nl:=⟨⟨default,none,0⟩⟩
structure Sl where
 id:UInt32
 fs:List Fd
 A:Option Addr
 c:Nat
instance:Inhabited Sl:=⟨⟨0,[],none,0⟩⟩
def nlV (s:Nl):List Value:=[il s.p.id.toNat,il s.p.par.toNat,il s.p.seq.toNat,il s.p.off.toNat,il s.p.tim.toNat,im s.p.sch.toNat,.slice s.A s.p.ms.length s.c]
def BQ (l:List Nl):List Value:=l.flatMap nlV
def slV (s:Sl):List Value:=[im s.id.toNat,.slice s.A s.fs.length s.c]
def CX (l:List Sl):List Value:=l.flatMap slV
theorem JF (s):(nlV s).length=7:=rfl
theorem GY (s):(slV s).length=2:=rfl
theorem Tm (a b):BQ (a++b)=BQ a++BQ b:=by simp[BQ]
theorem Tn (a b):CX (a++b)=CX a++CX b:=by simp[CX]
theorem FU (s):∀u∈nlV s,u.oneCell'=true:=by
 intro u hu;simp[nlV]at hu;rcases hu with rfl|rfl|rfl|rfl|rfl|rfl|rfl<;>rfl
theorem GZ (s):∀u∈slV s,u.oneCell'=true:=by
 intro u hu;simp[slV]at hu;rcases hu with rfl|rfl<;>rfl
section
variable {w w':World} {B n c:Nat} {A:Option Addr}
theorem Rd.lenN {l}(h:Rd w B 7 A n c (BQ l)):n=l.length:=h.lenA nlV 7 JF gd
theorem Rd.lenS {l}(h:Rd w B 2 A n c (CX l)):n=l.length:=h.lenA slV 2 GY gd
theorem Rd.nl {l}(h:Rd w B 7 A n c (BQ l)){i}(hi:i<l.length):∃b off,A=some ⟨b,off,none⟩/\b<B /\
 w.cell? (gX b (off+i * 7))=some (il ((l.getD i default).p.id.toNat:Int))/\w.cell? (gX b (off+i * 7+1))=some (il ((l.getD i default).p.par.toNat:Int))/\w.cell? (gX b (off+i * 7+2))=some (il ((l.getD i default).p.seq.toNat:Int)) /\
 w.cell? (gX b (off+i * 7+3))=some (il ((l.getD i default).p.off.toNat:Int))/\w.cell? (gX b (off+i * 7+4))=some (il ((l.getD i default).p.tim.toNat:Int))/\w.cell? (gX b (off+i * 7+5))=some (im ((l.getD i default).p.sch.toNat:Int)) /\
 w.cell? (gX b (off+i * 7+6))=some (.slice (l.getD i default).A (l.getD i default).p.ms.length (l.getD i default).c):=by
 obtain⟨b,off,rfl,hb,hc⟩:=h.el nlV 7 JF hi gd;exact⟨b,off,rfl,hb,hc 0 _ rfl,hc 1 _ rfl,hc 2 _ rfl,hc 3 _ rfl,hc 4 _ rfl,hc 5 _ rfl,hc 6 _ rfl⟩
theorem Rd.sl {l}(h:Rd w B 2 A n c (CX l)){i}(hi:i<l.length):∃b off,A=some ⟨b,off,none⟩/\b<B /\
 w.cell? (gX b (off+i * 2))=some (im ((l.getD i default).id.toNat:Int))/\w.cell? (gX b (off+i * 2+1))=some (.slice (l.getD i default).A (l.getD i default).fs.length (l.getD i default).c):=by
 obtain⟨b,off,rfl,hb,hc⟩:=h.el slV 2 GY hi gd;exact⟨b,off,rfl,hb,hc 0 _ rfl,hc 1 _ rfl⟩
end
structure TabR (w:World) (B:Nat) (sA:Option Addr) (sc:Nat) (ss:List Sl) (nA:Option Addr) (nc:Nat) (ns:List Nl):Prop where
 srow:Rd w B 2 sA ss.length sc (CX ss)
 sin:∀s∈ss,Rd w B 4 s.A s.fs.length s.c (AZ s.fs)
 nrow:Rd w B 7 nA ns.length nc (BQ ns)
 nin:∀s∈ns,Rd w B 1 s.A s.p.ms.length s.c (AY s.p.ms)
section
variable {w w':World} {B B' sc nc:Nat} {sA nA:Option Addr} {ss:List Sl} {ns:List Nl}
theorem TabR.below (h:TabR w B sA sc ss nA nc ns)(hb:Below B w w'):TabR w' B sA sc ss nA nc ns:=⟨h.srow.below hb,λs hs=>(h.sin s hs).below hb,h.nrow.below hb,λs hs=>(h.nin s hs).below hb⟩
theorem TabR.more (h:TabR w B sA sc ss nA nc ns)(hB:B<=B'):TabR w B' sA sc ss nA nc ns:=⟨h.srow.more hB,λs hs=>(h.sin s hs).more hB,h.nrow.more hB,λs hs=>(h.nin s hs).more hB⟩
theorem TabR.later (h:TabR w w.heap.size sA sc ss nA nc ns)(hb:Below w.heap.size w w'):TabR w' w'.heap.size sA sc ss nA nc ns:=(h.below hb).more hb.size
theorem TabR.drew (h:TabR w B sA sc ss nA nc ns):TabR w.drew B sA sc ss nA nc ns:=⟨h.srow.drew,λs hs=>(h.sin s hs).drew,h.nrow.drew,λs hs=>(h.nin s hs).drew⟩
theorem B9 {α:Type}[Inhabited α]{l:List α}{i}(hi:i<l.length):l.getD i default∈l:=by
 simp[List.getD,hi]
theorem TabR.s_at (h:TabR w B sA sc ss nA nc ns){i}(hi:i<ss.length):Rd w B 4 (ss.getD i default).A (ss.getD i default).fs.length (ss.getD i default).c (AZ (ss.getD i default).fs):=h.sin _ (B9 hi)
theorem TabR.n_at (h:TabR w B sA sc ss nA nc ns){i}(hi:i<ns.length):Rd w B 1 (ns.getD i default).A (ns.getD i default).p.ms.length (ns.getD i default).c (AY (ns.getD i default).p.ms):=h.nin _ (B9 hi)
end
theorem Ez:STy prog 41 9 1 16 (.string ByteArray.empty):=⟨underlying41,gh,rfl,gm,gm⟩
theorem Ds:STy prog 37 43 7 72 (.agg Aj):=⟨underlying37,gh,rfl,gm,gm⟩
theorem Fu:STy prog 36 33 2 32 (.agg B3):=⟨underlying36,gh,rfl,gm,gm⟩
theorem Hb (l):∀u∈AY l,u.oneCell'=true:=by
 intro u hu;simp[AY]at hu;obtain⟨a,_,rfl⟩:=hu;rfl
def Eh (f g:Fd):Bool:=((f.id.toNat:Int)==(g.id.toNat:Int))&&((f.name.toList==g.name.toList)&&(((f.kind.toNat:Int)==(g.kind.toNat:Int))&&(f.need==g.need)))
theorem NV (f g w):(binOp .neq 89 (.agg (fDV f)) (.agg (fDV g))).run prog w = .ok (.bool (!Eh f g)) w:=by
 rw[run_neq_struct];unfold Eh;cases h1:((f.id.toNat:Int)==(g.id.toNat:Int))<;>cases h2:(f.name.toList==g.name.toList)<;>cases h3:((f.kind.toNat:Int)==(g.kind.toNat:Int))<;>cases h4:(f.need==g.need)<;>go_simp
def CY (l:List UInt64):List Value:=l.map λx=>il x.toNat
section
variable {w:World} {B n c:Nat} {A:Option Addr}
theorem Rd.lenU {l}(h:Rd w B 1 A n c (CY l)):n=l.length:=by
 have:=h.len;simp[CY]at this;omega
theorem Rd.u64 {l}(h:Rd w B 1 A n c (CY l)){k}(hk:k<l.length):∃b off,A=some ⟨b,off,none⟩/\b<B/\w.cell? (gX b (off+k))=some (il ((l.getD k default).toNat:Int)):=by
 obtain⟨b,off,e,hb,hc⟩:=h.cellAt (k:=k) (by simp[CY];exact hk);refine⟨b,off,e,hb,hc.trans ?_⟩;simp[CY,List.getD,hk]
end
theorem To (w B n c A l)(hr:Rd w B 1 A n c (CY l))(hmax:l.length<=1000000)(x:UInt64):
 Calls prog 156 #[.slice A n c,il x.toNat] w λe w'=>e = .returned (io (ixA (λy=>(x.toNat:Int)==(y.toNat:Int)) l))/\w=w':=by
 obtain rfl:=hr.lenU;go_enter func156,ntmps156;go_wp2;go_loop [8] (λiv=>∃k:Nat,k<=l.length/\iv = io k/\ga (∀j,j<k->(λy=>(x.toNat:Int)==(y.toNat:Int)) (l.getD j default)=false)) (λiv=>l.length-(intOf iv).toNat);case atStart=>exact⟨0,AU _,rfl,AB (λj h=>gd)⟩
 case round=>
  obtain⟨k,hk,rfl,hf⟩:=hrel;by_cases G:k<l.length
  .obtain⟨b,off,rfl,hb,f0⟩:=hr.u64 G;cases hq:(λy=>(x.toNat:Int)==(y.toNat:Int)) (l.getD k default)with
   | true=>
     have HI:ga (ixA (λy=>(x.toNat:Int)==(y.toNat:Int)) l=(k:Int)):=AB (FA G hq hf.o);dsimp only at hq;generalize l.getD k default=y at *;go_wp2;go_ret;exact⟨by rw[HI.o];rfl,rfl⟩
   | false=>
     have HQ:=AB hq;dsimp only at hq;generalize hx:l.getD k default=y at *;have HX:=AB hx;clear hx;go_wp2;go_round;case rel=>
      refine⟨k+1,gd,by go_num,AB (λj hj=>?_)⟩;by_cases e:j=k
      .rw[e,HX.o];exact HQ.o
      exact hf.o j gd
     case measure=>simp[intOf];omega
  have HI:ga (ixA (λy=>(x.toNat:Int)==(y.toNat:Int)) l = -1):=AB (Fs λj hj=>hf.o j gd);go_wp2;go_ret;exact⟨by rw[HI.o];rfl,rfl⟩
theorem Kc (w B n c A l)(hr:Rd w B 1 A n c (CY l))(hmax:l.length<=1000000)(x:UInt64):
 Calls prog 87 #[.slice A n c,il x.toNat] w λe w'=>e = .returned (.bool (l.any λy=>(x.toNat:Int)==(y.toNat:Int)))/\w=w':=by
 have hc:=To w B n c A l hr hmax x;rw[<-IK];generalize ixA (λy=>(x.toNat:Int)==(y.toNat:Int)) l=r at *;clear hr;go_enter func87,ntmps87;go_wp2_with fail
 refine hc.mono ?_;rintro e w' ⟨rfl,rfl⟩;go_wp2_with fail
 go_ret;exact⟨rfl,rfl⟩
theorem Tp (w B n c A l)(hr:Rd w B 1 A n c (AY l))(hmax:l.length<=1000000)(x):
 Calls prog 159 #[.slice A n c,.string x] w λe w'=>e = .returned (io (ixA (λy=>x.toList==y.toList) l))/\w=w':=by
 obtain rfl:=hr.lenT;go_enter func159,ntmps159;go_wp2;go_loop [8] (λiv=>∃k:Nat,k<=l.length/\iv = io k/\ga (∀j,j<k->(λy=>x.toList==y.toList) (l.getD j default)=false)) (λiv=>l.length-(intOf iv).toNat);case atStart=>exact⟨0,AU _,rfl,AB (λj h=>gd)⟩
 case round=>
  obtain⟨k,hk,rfl,hf⟩:=hrel;by_cases G:k<l.length
  .obtain⟨b,off,rfl,hb,f0⟩:=hr.st G;cases hq:(λy=>x.toList==y.toList) (l.getD k default)with
   | true=>
     have HI:ga (ixA (λy=>x.toList==y.toList) l=(k:Int)):=AB (FA G hq hf.o);dsimp only at hq;generalize l.getD k default=y at *;go_wp2;go_ret;exact⟨by rw[HI.o];rfl,rfl⟩
   | false=>
     have HQ:=AB hq;dsimp only at hq;generalize hx:l.getD k default=y at *;have HX:=AB hx;clear hx;go_wp2;go_round;case rel=>
      refine⟨k+1,gd,by go_num,AB (λj hj=>?_)⟩;by_cases e:j=k
      .rw[e,HX.o];exact HQ.o
      exact hf.o j gd
     case measure=>simp[intOf];omega
  have HI:ga (ixA (λy=>x.toList==y.toList) l = -1):=AB (Fs λj hj=>hf.o j gd);go_wp2;go_ret;exact⟨by rw[HI.o];rfl,rfl⟩
theorem NW (w B n c A l)(hr:Rd w B 1 A n c (AY l))(hmax:l.length<=1000000)(x):
 Calls prog 100 #[.slice A n c,.string x] w λe w'=>e = .returned (.bool (l.any λy=>x.toList==y.toList))/\w=w':=by
 have hc:=Tp w B n c A l hr hmax x;rw[<-IK];generalize ixA (λy=>x.toList==y.toList) l=r at *;clear hr;go_enter func100,ntmps100;go_wp2_with fail
 refine hc.mono ?_;rintro e w' ⟨rfl,rfl⟩;go_wp2_with fail
 go_ret;exact⟨rfl,rfl⟩
def okP (b:Nat):Bool:=decide (97<=b/\b<=122\/48<=b/\b<=57\/b=47\/b=45)
def BE (s:ByteArray) (p:Nat):Bool:=okP (sgn s p)
def Aq (s:ByteArray):Bool:=decide (1<=s.size)&&decide (s.size<=24)&&Bx s (BE s) s.size 0
theorem Kd {s}(h:s.size<1):Aq s=false:=by unfold Aq;rw[AG gd];rfl
theorem Ga {s}(h:24<s.size):Aq s=false:=by unfold Aq;rw[AG (show ¬s.size<=24 by omega)];simp
theorem Ke {s}(h:1<=s.size)(h2:s.size<=24):Aq s=Bx s (BE s) s.size 0:=by unfold Aq;rw[AF h,AF h2];rfl
theorem CJ (s p c)(h:sgn s p=c):BE s p=decide (97<=c/\c<=122\/48<=c/\c<=57\/c=47\/c=45):=by subst h;rfl
def NY (w:World) (g:Nat) (lb:Array Value) (p:Nl->Bool):Prop:=
 ∀(W:World) (f:Nl),Below w.heap.size w W->Calls prog g (#[.agg (dO f.p f.A f.c)]++lb) W λe w'=>e = .returned (.bool (p f))/\Below w.heap.size w w'
theorem Kf (w n c A l)(hr:Rd w w.heap.size 7 A n c (BQ l))(hmax:l.length<=1000000)(g lb p)(eg:∀args w,(callFunc g args).run prog w = .ok (.enter g args) w)(hp:NY w g lb p):
 Calls prog 143 #[.slice A n c,.func (.func g) #[] lb] w λe w'=>e = .returned (io (ixA p l))/\Below w.heap.size w w':=by
 obtain rfl:=hr.lenN;go_enter func143,ntmps143;go_wp2_with fail
 go_loopw [5,8] (λ_ kv wr=>∃k:Nat,k<=l.length/\kv = io k/\ga (∀j,j<k->p (l.getD j default)=false)/\ga (Below w.heap.size w wr)) (λ_ kv _=>l.length-(intOf kv).toNat);case atStart=>exact⟨0,AU _,rfl,AB (λj h=>gd),AB (AC _ _)⟩
 case round=>
  obtain⟨k,hk,rfl,hf,I⟩:=hrel;by_cases O:k<l.length
  .obtain⟨b,off,rfl,hb,f0,f1,f2,f3,f4,f5,f6⟩:=(hr.below I.o).nl O;have G:=hp wr (l.getD k default) I.o;generalize T:l.getD k default=f at *;have HF:=AB T;clear T hp;cases hq:p f with
   | true=>
     rw[hq]at G;have HQ:=AB hq;clear hq;(go_wp2_with fail);refine G.mono ?_;rintro e w' ⟨rfl,hb'⟩;(go_wp2_with fail);go_ret;exact⟨by rw[FA O (by rw[HF.o];exact HQ.o) hf.o];rfl,hb'⟩
   | false=>
     rw[hq]at G;have HQ:=AB hq;clear hq;(go_wp2_with fail);refine G.mono ?_;rintro e w' ⟨rfl,hb'⟩;(go_wp2_with fail);go_roundw;case rel=>
      refine⟨k+1,gd,by go_num,AB (λj hj=>?_),AB hb'⟩;by_cases e:j=k
      .rw[e,HF.o];exact HQ.o
      exact hf.o j gd
     case measure=>exact Co k _ O
  obtain rfl:k=l.length:=gd;go_wp2_with fail
  go_ret;exact⟨by rw[Fs hf.o];rfl,I.o⟩
def NZ (w:World) (g:Nat) (lb:Array Value) (p:Sl->Bool):Prop:=
 ∀(W:World) (f:Sl),Below w.heap.size w W->Calls prog g (#[.agg (dR f.id f.A f.fs.length f.c)]++lb) W λe w'=>e = .returned (.bool (p f))/\Below w.heap.size w w'
theorem Ts (w n c A l)(hr:Rd w w.heap.size 2 A n c (CX l))(hmax:l.length<=1000000)(g lb p)(eg:∀args w,(callFunc g args).run prog w = .ok (.enter g args) w)(hp:NZ w g lb p):
 Calls prog 204 #[.slice A n c,.func (.func g) #[] lb] w λe w'=>e = .returned (io (ixA p l))/\Below w.heap.size w w':=by
 obtain rfl:=hr.lenS;go_enter func204,ntmps204;go_wp2_with fail
 go_loopw [5,8] (λ_ kv wr=>∃k:Nat,k<=l.length/\kv = io k/\ga (∀j,j<k->p (l.getD j default)=false)/\ga (Below w.heap.size w wr)) (λ_ kv _=>l.length-(intOf kv).toNat);case atStart=>exact⟨0,AU _,rfl,AB (λj h=>gd),AB (AC _ _)⟩
 case round=>
  obtain⟨k,hk,rfl,hf,I⟩:=hrel;by_cases O:k<l.length
  .obtain⟨b,off,rfl,hb,f0,f1⟩:=(hr.below I.o).sl O;have G:=hp wr (l.getD k default) I.o;generalize T:l.getD k default=f at *;have HF:=AB T;clear T hp;cases hq:p f with
   | true=>
     rw[hq]at G;have HQ:=AB hq;clear hq;(go_wp2_with fail);refine G.mono ?_;rintro e w' ⟨rfl,hb'⟩;(go_wp2_with fail);go_ret;exact⟨by rw[FA O (by rw[HF.o];exact HQ.o) hf.o];rfl,hb'⟩
   | false=>
     rw[hq]at G;have HQ:=AB hq;clear hq;(go_wp2_with fail);refine G.mono ?_;rintro e w' ⟨rfl,hb'⟩;(go_wp2_with fail);go_roundw;case rel=>
      refine⟨k+1,gd,by go_num,AB (λj hj=>?_),AB hb'⟩;by_cases e:j=k
      .rw[e,HF.o];exact HQ.o
      exact hf.o j gd
     case measure=>exact Co k _ O
  obtain rfl:k=l.length:=gd;go_wp2_with fail
  go_ret;exact⟨by rw[Fs hf.o];rfl,I.o⟩
theorem Tt:∀args w,(callFunc 144 args).run prog w = .ok (.enter 144 args) w:=enters_of func144 gh rfl
theorem Tu:∀args w,(callFunc 205 args).run prog w = .ok (.enter 205 args) w:=enters_of func205 gh rfl
theorem Tv (w bf)(id:UInt64)(hbf:bf<w.heap.size)(hc:w.cell? (gX bf 0)=some (il id.toNat)):
 NY w 144 #[iq bf 0] (λf=>(f.p.id.toNat:Int)==(id.toNat:Int)):=λW f hb=>by
 have:=(hb.cell (p:=gX bf 0) hbf).trans hc;have G:bf<W.heap.size:=AV hbf hb.size;have:bf≠W.heap.size:=Cy G;show Calls prog 144 #[.agg (dO f.p f.A f.c),iq bf 0] W _;clear hc;go_enter func144,ntmps144;go_wp2_with fail
 go_ret;exact⟨rfl,hb.alloc hb.size _⟩
theorem Tw (w bf)(id:UInt32)(hbf:bf<w.heap.size)(hc:w.cell? (gX bf 0)=some (im id.toNat)):
 NZ w 205 #[iq bf 0] (λf=>(f.id.toNat:Int)==(id.toNat:Int)):=λW f hb=>by
 have:=(hb.cell (p:=gX bf 0) hbf).trans hc;have G:bf<W.heap.size:=AV hbf hb.size;have:bf≠W.heap.size:=Cy G;show Calls prog 205 #[.agg (dR f.id f.A f.fs.length f.c),iq bf 0] W _;clear hc;go_enter func205,ntmps205;go_wp2_with fail
 go_ret;exact⟨rfl,hb.alloc hb.size _⟩
theorem Na (w B n c A xs)(hr:Rd w B 1 A n c xs)(h1:∀u∈xs,u.oneCell'=true)(hb:n * 16<=140737488355328)(hB:B<=w.heap.size):
 Calls prog 46 #[.slice A n c] w (GT w 9 1 n xs):=by
 have:=λW=>Lib.run_eql_slice_nil (P:=prog) W 41 9 A n c 0 0 underlying41;cases A with
 | none=>
   obtain⟨rfl,rfl⟩:=hr.none_;go_enter func46,ntmps46;(go_wp2_with fail);go_ret;exact⟨_,rfl,Av _ _ _ _,AC _ _⟩
 | some ad=>
   have I:=Ew w (base:=w.heap.size) 9 1 0 #[] (AD _) gm rfl;have O:=hr.alloc hB (.cells #[] 9);go_enter func46,ntmps46;go_wp2_with (at_builtin;refine Aw _ Ez rfl _ _ rfl w.heap.size _ 0 [] rfl I B (some ad) _ c _ rfl O h1 gd gj ?_;intro v2 w2 G T _;simp only[BL,CN]at G;have V:=Au (hI w (.cells #[] 9)) (AD _) I T gj)
   go_ret;exact⟨v2,rfl,G,V⟩
theorem Kg (w b v0 v1 v2 v3 v4 v5 v6)(c0:w.cell? (gX b 0)=some v0)(c1:w.cell? (gX b 1)=some v1)(c2:w.cell? (gX b 2)=some v2)(c3:w.cell? (gX b 3)=some v3)(c4:w.cell? (gX b 4)=some v4)(c5:w.cell? (gX b 5)=some v5)(c6:w.cell? (gX b 6)=some v6):
 (loadVar 43 ⟨b,0,none⟩).run prog w = .ok (.agg #[v0,v1,v2,v3,v4,v5,v6]) w:=by
 go_simp
theorem Kh {fn p}(h:fn.results=#[.cell p 43])(tmps w){b v0 v1 v2 v3 v4 v5 v6}(hp:tmps.getD p undef = iq b 0)(hb:dH w b [v0,v1,v2,v3,v4,v5,v6]):
 (results fn tmps).run prog w = .ok (.agg #[v0,v1,v2,v3,v4,v5,v6]) w:=by
 rw[IJ h,hp];have:=Kg w b _ _ _ _ _ _ _ (hb.cell 0 _ rfl) (hb.cell 1 _ rfl) (hb.cell 2 _ rfl) (hb.cell 3 _ rfl) (hb.cell 4 _ rfl) (hb.cell 5 _ rfl) (hb.cell 6 _ rfl);simp[asAddr,Result.andThen,this]
theorem Dt {fn p u}(h:fn.results=#[.cell p 43,.tmp u])(tmps w){b v0 v1 v2 v3 v4 v5 v6}(hp:tmps.getD p undef = iq b 0)(hb:dH w b [v0,v1,v2,v3,v4,v5,v6]):
 (results fn tmps).run prog w = .ok (.tuple #[.agg #[v0,v1,v2,v3,v4,v5,v6],tmps.getD u undef]) w:=by
 rw[results_cell_tmp h,hp];have:=Kg w b _ _ _ _ _ _ _ (hb.cell 0 _ rfl) (hb.cell 1 _ rfl) (hb.cell 2 _ rfl) (hb.cell 3 _ rfl) (hb.cell 4 _ rfl) (hb.cell 5 _ rfl) (hb.cell 6 _ rfl);simp[asAddr,Result.andThen,this]
def set7 (w:World) (b:Nat) (v0 v1 v2 v3 v4 v5 v6:Value):World:=((((((w.setCell ⟨b,0,none⟩ v0).setCell ⟨b,1,none⟩ v1).setCell ⟨b,2,none⟩ v2).setCell ⟨b,3,none⟩ v3).setCell ⟨b,4,none⟩ v4).setCell ⟨b,5,none⟩ v5).setCell ⟨b,6,none⟩ v6
section
variable {w:World} {b:Nat} {v0 v1 v2 v3 v4 v5 v6:Value}
theorem dH.set7 {u0 u1 u2 u3 u4 u5 u6:Value} (h:dH w b [u0,u1,u2,u3,u4,u5,u6]):dH (set7 w b v0 v1 v2 v3 v4 v5 v6) b [v0,v1,v2,v3,v4,v5,v6]:=
 ((((((h.set (j:=0) v0 rfl).set (j:=1) v1 rfl).set (j:=2) v2 rfl).set (j:=3) v3 rfl).set (j:=4) v4 rfl).set (j:=5) v5 rfl).set (j:=6) v6 rfl
theorem JG {base e sz n v xs}(h:w.ownsRow base e sz v n xs)(hb:b<base):(set7 w b v0 v1 v2 v3 v4 v5 v6).ownsRow base e sz v n xs:=by
 unfold Go.Proofs.YtpfofefecamkfaaGreatDoor.set7;exact B6 (B6 (B6 (B6 (B6 (B6 (B6 h (a:=gX b 0) hb _) (a:=gX b 1) hb _) (a:=gX b 2) hb _) (a:=gX b 3) hb _) (a:=gX b 4) hb _) (a:=gX b 5) hb _) (a:=gX b 6) hb _
theorem Hc {B w0}(h:Below B w0 w)(hb:B<=b):Below B w0 (set7 w b v0 v1 v2 v3 v4 v5 v6):=
 ((((((h.setCell (p:=gX b 0) hb _).setCell (p:=gX b 1) hb _).setCell (p:=gX b 2) hb _).setCell (p:=gX b 3) hb _).setCell (p:=gX b 4) hb _).setCell (p:=gX b 5) hb _).setCell (p:=gX b 6) hb _
end
def Nb (w:World) (p:Sn) (e:Ending) (w':World):Prop:=
 ∃A c,e = .returned (.agg (dO p A c))/\w'.ownsRow w.heap.size 9 1 (.slice A p.ms.length c) p.ms.length (AY p.ms)/\Below w.heap.size w w'
theorem JH (w p A c)(hr:Rd w w.heap.size 1 A p.ms.length c (AY p.ms))(hmax:p.ms.length<=1000000):
 Calls prog 105 #[.agg (dO p A c)] w (Nb w p):=by
 go_enter func105,ntmps105;go_wp2_with fail
 obtain⟨x1,Z⟩:=gZ w (dO p A c) 43;have ab:(w.alloc (.cells (dO p A c) 43)).heap.size=w.heap.size+1:=gj;generalize w.alloc _=w1 at *;obtain⟨x2,aa⟩:=gZ w1 Aj 43;have G:=x1.keep aa x1.z;have I:=AM Z Z.size aa;have ah:(w1.alloc (.cells Aj 43)).heap.size=w1.heap.size+1:=gj;rw[<-ab];generalize w1.alloc _=w2 at *;have ad:=(hr.below I).more I.size;obtain⟨b1,T⟩:∃b,b=w.heap.size:=⟨_,rfl⟩;obtain⟨b2,V⟩:∃b,b=w1.heap.size:=⟨_,rfl⟩;rw[<-T]at G ⊢;rw[<-V]at x2 ⊢;have k1:b1<b2:=gd;have k2:b2<w2.heap.size:=gd;have k3:w.heap.size<=b1:=gd;have k4:w.heap.size<=w2.heap.size:=gd;clear Z aa x1 hr ab ah T V;have c6:=G.cell 6 _ rfl;go_wp2_with fail
 refine(Na w2 w2.heap.size _ c A (AY p.ms) ad (Hb _) gd (AD _)).mono ?_;rintro e w3 ⟨v3,rfl,hown3,hb3⟩;have y1:=G.keep hb3 G.z;have y2:=x2.keep hb3 x2.z;have ae:=AM I I.size hb3;obtain⟨A3,c3,rfl,_⟩:=Rd.of_own hown3;have z1:=y1.set (j:=6) (.slice A3 p.ms.length c3) rfl;have z2:=y2.else (p:=gX b1 6) (Cy k1) (.slice A3 p.ms.length c3);have O:=B6 hown3 (a:=gX b1 6) (by show b1<w2.heap.size;omega) (.slice A3 p.ms.length c3);have af:Below w.heap.size w (w3.setCell (gX b1 6) (.slice A3 p.ms.length c3)):=ae.setCell (p:=gX b1 6) k3 _;obtain⟨g0,g1,g2,g3,g4,g5,g6⟩:=y1.c7;have:=y1.free 6 gj;obtain⟨e0,e1,e2,e3,e4,e5,e6⟩:=y2.c7;obtain⟨h0,h1,h2,h3,h4,h5,h6⟩:=y2.f7;have ag:b1≠b2:=Cy k1;have:b2≠b1:=λq=>ag q.symm;have Z2:=AB z2;have HO:=AB O;have HB:=AB af;clear z1 z2 O af y1 y2 hown3 hb3 ae G x2 I ad c6;go_wp2_with fail
 (try simp only[Exit.inBlock,Exit.then]);refine AW (Kh (b:=b2) rfl _ _ rfl Z2.o.set7) rfl ?_;refine⟨A3,c3,rfl,?_,Hc HB.o gd⟩;exact B4 (JG HO.o k2) k4
def sIx (ns:List Nl) (id:UInt64):Int:=ixA (λf:Nl=>(f.p.id.toNat:Int)==(id.toNat:Int)) ns
def cIx (ss:List Sl) (id:UInt32):Int:=ixA (λf:Sl=>(f.id.toNat:Int)==(id.toNat:Int)) ss
def Cg (ns:List Nl) (i:Int):Sn:=if 0<=i then (ns.getD i.toNat default).p else default
def Ki (w:World) (ns:List Nl) (i:Int) (e:Ending) (w':World):Prop:=
 ∃A c,e = .returned (.tuple #[.agg #[il ((Cg ns i).id.toNat:Int),il ((Cg ns i).par.toNat:Int),il ((Cg ns i).seq.toNat:Int),il ((Cg ns i).off.toNat:Int),il ((Cg ns i).tim.toNat:Int),im ((Cg ns i).sch.toNat:Int),.slice A (Cg ns i).ms.length c],.bool (decide (0<=i))])/\w'.ownsRow w.heap.size 9 1 (.slice A (Cg ns i).ms.length c) (Cg ns i).ms.length (AY (Cg ns i).ms)/\Below w.heap.size w w'
theorem FV {n k p}(hk:k<n)(h:p k=false):(List.range n).all p=false:=by
 rw[List.all_eq_false];exact⟨k,List.mem_range.2 hk,gz⟩
theorem Gb {n p}(h:∀j,j<n->p j=true):(List.range n).all p=true:=by
 rw[Da];exact λj hj=>h j (List.mem_range.1 hj)
def DS (l1 l2:List Fd):Bool:=decide (l1.length=l2.length)&&(List.range l1.length).all λj=>Eh (l1.getD j default) (l2.getD j default)
theorem Nc (w B n1 c1 n2 c2 A1 A2 l1 l2)(O:Rd w B 4 A1 n1 c1 (AZ l1))(T:Rd w B 4 A2 n2 c2 (AZ l2))(hB:B<=w.heap.size)(hmax:l1.length<=1000000):
 Calls prog 165 #[.slice A1 n1 c1,.slice A2 n2 c2] w λe w'=>e = .returned (.bool (DS l1 l2))/\Below w.heap.size w w':=by
 obtain rfl:=O.lenF;obtain rfl:=T.lenF;have O:=O.more hB;have T:=T.more hB;by_cases g2:l1.length=l2.length
 .have y2:=gO l1.length l2.length;have hs:DS l1 l2=(List.range l1.length).all λj=>Eh (l1.getD j default) (l2.getD j default):=by
   unfold DS;rw[AF g2,CV]
  rw[hs];have HG:=AB g2;clear g2 hs;go_enter func165,ntmps165;go_wp2_with fail
  go_loopw [13] (λiv wr=>∃k:Nat,k<=l1.length/\iv = io k/\ga (∀j,j<k->Eh (l1.getD j default) (l2.getD j default)=true)/\Below w.heap.size w wr) (λiv _=>l1.length-(intOf iv).toNat);case atStart=>exact⟨0,AU _,rfl,AB (λj h=>gd),AC _ _⟩
  case round=>
   obtain⟨k,hk,rfl,hf,G⟩:=hrel;by_cases V:k<l1.length
   .have Z:k<l2.length:=by have:=HG.o;omega
    obtain⟨b1,o1,rfl,ae,p0,p1,p2,p3⟩:=(O.below G).fd V;obtain⟨b2,o2,rfl,af,q0,q1,q2,q3⟩:=(T.below G).fd Z;generalize aa:l1.getD k default=f at *;generalize ab:l2.getD k default=f2 at *;have HF:=gR aa ab;clear aa ab;have ad:=NV f f2;cases hq:Eh f f2 with
    | true=>
      rw[hq,Bool.not_true]at ad;have HQ:=AB hq;clear hq;(go_wp2_with fail);go_quiet (fail)
      (go_wp2_with fail);go_roundw;case rel=>
       refine⟨k+1,V,by go_num,AB (λj hj=>?_),CO G _⟩;by_cases e:j=k
       .rw[e,HF.o.1,HF.o.2];exact HQ.o
       exact hf.o j gd
      case measure=>exact Co k _ V
    | false=>
      rw[hq,Bool.not_false]at ad;have HQ:=AB hq;clear hq;have I:ga (((List.range l1.length).all λj=>Eh (l1.getD j default) (l2.getD j default))=false):=AB (FV V (by rw[HF.o.1,HF.o.2,HQ.o]));(go_wp2_with fail);go_quiet (fail)
      (go_wp2_with fail);go_ret;exact⟨by rw[I.o];rfl,CO G _⟩
   obtain rfl:k=l1.length:=gd;have I:ga (((List.range l1.length).all λj=>Eh (l1.getD j default) (l2.getD j default))=true):=AB (Gb hf.o);(go_wp2_with fail);go_ret;exact⟨by rw[I.o];rfl,G⟩
 have y2:=gM l1.length l2.length;have hs:DS l1 l2=false:=by unfold DS;rw[AG g2];rfl
 rw[hs];clear g2 hs;go_enter func165,ntmps165;go_wp2_with fail
 go_ret;exact⟨rfl,AC _ _⟩
def BJ (l:List ByteArray):Bool:=decide (l.length<=8)&&(List.range l.length).all λi=>Aq (l.getD i default) && !((l.take i).any λy=>(l.getD i default).toList==y.toList)
def Fv (ns:List Nl) (cur:UInt64):Int:=if cur.toNat=0 then -1 else sIx ns cur
def He (ss:List Sl) (i:Int):UInt32:=if 0<=i then (ss.getD i.toNat default).id else 0
def FW (ss:List Sl) (i:Int):List Fd:=if 0<=i then (ss.getD i.toNat default).fs else []
def Tz (w:World) (ss:List Sl) (i:Int) (e:Ending) (w':World):Prop:=
 ∃F fc,e = .returned (.tuple #[.agg #[im ((He ss i).toNat:Int),.slice F (FW ss i).length fc],.bool (decide (0<=i))])/\w'.ownsRow w.heap.size 89 4 (.slice F (FW ss i).length fc) (FW ss i).length (AZ (FW ss i))/\Below w.heap.size w w'
theorem Nd {W:World}{b p v}(hne:p.block≠b)(h:W.cell? p=v)(x y):((W.setCell (gX b 0) x).setCell (gX b 1) y).cell? p=v:=by
 rw[Gw,Gw]
 .exact h
 .intro q;exact hne (by rw[<-q])
 intro q;exact hne (by rw[<-q])
theorem DJ {w w':World}{base base2 sz sz2 n n2 e e2 v v2 xs xs2}(h:w.ownsRow base e sz v n xs)(ho:w.ownsRow base2 e2 sz2 v2 n2 xs2)(hg:w.grownBy w' v2.ownBlock)(hne:e≠e2):w'.ownsRow base e sz v n xs:=by
 refine h.kept hg ?_;rcases h.2 with ⟨rfl,_⟩|⟨g,cap,cur,rfl,_,hc,_⟩
 .exact .inl rfl
 refine .inr λq=>?_;rcases ho.2 with ⟨rfl,_⟩|⟨g2,I,O,rfl,_,G,_⟩
 .cases q
 simp only[Value.ownBlock]at q;injection q with q;subst q;rw[hc]at G;injection G with G;injection G with _ q2 _;exact hne q2
structure dN (w:World) (B:Nat) (sA:Option Addr) (sc:Nat) (ss:List Sl) (nA:Option Addr) (nc:Nat) (ns:List Nl):Prop where
 sown:w.ownsRow B 33 2 (.slice sA ss.length sc) ss.length (CX ss)
 sin:∀s∈ss,w.ownsRow B 89 4 (.slice s.A s.fs.length s.c) s.fs.length (AZ s.fs)
 nown:w.ownsRow B 43 7 (.slice nA ns.length nc) ns.length (BQ ns)
 nin:∀s∈ns,w.ownsRow B 9 1 (.slice s.A s.p.ms.length s.c) s.p.ms.length (AY s.p.ms)
theorem Ay {w B sz n c e A xs}(h:w.ownsRow B e sz (.slice A n c) n xs):Rd w w.heap.size sz A n c xs:=by
 obtain⟨A',c',q,hr⟩:=Rd.of_own h;injection q with q1 q2 q3;subst q1 q3;exact hr
section
variable {w w':World} {B sc nc:Nat} {sA nA:Option Addr} {ss:List Sl} {ns:List Nl}
theorem dN.keep (h:dN w B sA sc ss nA nc ns)(hb:Below w.heap.size w w'):dN w' B sA sc ss nA nc ns:=
 ⟨Ag h.sown hb,λs hs=>Ag (h.sin s hs) hb,Ag h.nown hb,λs hs=>Ag (h.nin s hs) hb⟩
theorem dN.set (h:dN w B sA sc ss nA nc ns){p}(hp:p.block<B)(x):dN (w.setCell p x) B sA sc ss nA nc ns:=
 ⟨B6 h.sown hp x,λs hs=>B6 (h.sin s hs) hp x,B6 h.nown hp x,λs hs=>B6 (h.nin s hs) hp x⟩
theorem dN.base (h:dN w B sA sc ss nA nc ns){B2}(hB:B2<=B):dN w B2 sA sc ss nA nc ns:=
 ⟨B4 h.sown hB,λs hs=>B4 (h.sin s hs) hB,B4 h.nown hB,λs hs=>B4 (h.nin s hs) hB⟩
theorem dN.tab (h:dN w B sA sc ss nA nc ns):TabR w w.heap.size sA sc ss nA nc ns:=
 ⟨Ay h.sown,λs hs=>Ay (h.sin s hs),Ay h.nown,λs hs=>Ay (h.nin s hs)⟩
theorem dN.nil (w B):dN w B none 0 [] none 0 []:=⟨Av _ _ _ _,gj,Av _ _ _ _,gj⟩
theorem dN.snocS (h:dN w B sA sc ss nA nc ns){v s}(hin:w.ownsRow B 89 4 (.slice s.A s.fs.length s.c) s.fs.length (AZ s.fs))(hown:w'.ownsRow B 33 2 v (ss.length+1) (CX ss++slV s))(hg:w.grownBy w' (Value.slice sA ss.length sc).ownBlock):
 ∃g cap,v = .slice (gY g 0) (ss.length+1) cap/\dN w' B (gY g 0) cap (ss++[s]) nA nc ns:=by
 obtain⟨g,cap,rfl,_,_⟩:=hown.form (Nat.succ_pos _);have e1:(ss++[s]).length=ss.length+1:=gj;have e2:CX ss++slV s=CX (ss++[s]):=by rw[Tn];simp[CX]
 refine⟨g,cap,rfl,by rw[e1,<-e2];exact hown,λx hx=>?_,DJ h.nown h.sown hg gm,λx hx=>DJ (h.nin x hx) h.sown hg gm⟩;rcases List.mem_append.1 hx with hx|hx
 .exact DJ (h.sin x hx) h.sown hg gm
 have:x=s:=by simpa using hx
 subst this;exact DJ hin h.sown hg gm
theorem dN.snocN (h:dN w B sA sc ss nA nc ns){v s}(hin:w.ownsRow B 9 1 (.slice s.A s.p.ms.length s.c) s.p.ms.length (AY s.p.ms))(hown:w'.ownsRow B 43 7 v (ns.length+1) (BQ ns++nlV s))(hg:w.grownBy w' (Value.slice nA ns.length nc).ownBlock):
 ∃g cap,v = .slice (gY g 0) (ns.length+1) cap/\dN w' B sA sc ss (gY g 0) cap (ns++[s]):=by
 obtain⟨g,cap,rfl,_,_⟩:=hown.form (Nat.succ_pos _);have e1:(ns++[s]).length=ns.length+1:=gj;have e2:BQ ns++nlV s=BQ (ns++[s]):=by rw[Tm];simp[BQ]
 refine⟨g,cap,rfl,DJ h.sown h.nown hg gm,λx hx=>DJ (h.sin x hx) h.nown hg gm,by rw[e1,<-e2];exact hown,λx hx=>?_⟩;rcases List.mem_append.1 hx with hx|hx
 .exact DJ (h.nin x hx) h.nown hg gm
 have:x=s:=by simpa using hx
 subst this;exact DJ hin h.nown hg gm
end
def Nf (B:Nat) (id:UInt32) (fs:List Fd) (v:Value) (w:World):Prop:= ∃A c,v = .agg (dR id A fs.length c)/\w.ownsRow B 89 4 (.slice A fs.length c) fs.length (AZ fs)
theorem U3 (B id fs):(Slot.has (Nf B id fs)).mono Ext:=λ_ _ _ he ⟨A,c,e,h⟩=>⟨A,c,e,Ag h he⟩
def Kj (B:Nat) (id:UInt32) (fs:List Fd) (v:Value) (w:World):Prop:= ∃A c L,v = .slice L 1 1/\Rd w w.heap.size 2 L 1 1 (slV ⟨id,fs,A,c⟩)/\w.ownsRow B 89 4 (.slice A fs.length c) fs.length (AZ fs)
theorem U4 (B id fs):(Slot.has (Kj B id fs)).mono Ext:=λ_ _ _ he ⟨A,c,L,e,h,h2⟩=>⟨A,c,L,e,(h.below he).more he.size,Ag h2 he⟩
theorem U5 (w:World){B id fs A c}(h:w.ownsRow B 89 4 (.slice A fs.length c) fs.length (AZ fs)):
 (Slot.has (Kj B id fs)).holds (.slice (gY w.heap.size 0) 1 1) (w.alloc (.cells (dR id A fs.length c) 33)):=by
 refine⟨A,c,_,rfl,?_,h.alloc _⟩;have:=Rd.lit w 33 (dR id A fs.length c) (n:=1) (sz:=2) rfl gm;exact this.more gj
def SnO (B:Nat) (p:Sn) (v:Value) (w:World):Prop:= ∃A c,v = .agg (dO p A c)/\w.ownsRow B 9 1 (.slice A p.ms.length c) p.ms.length (AY p.ms)
theorem U6 (B p):(Slot.has (SnO B p)).mono Ext:=λ_ _ _ he ⟨A,c,e,h⟩=>⟨A,c,e,Ag h he⟩
theorem U7 {w w' B p e}(h:Nb w p e w')(hB:B<=w.heap.size):∃v,e = .returned v/\Ext w w'/\(Slot.has (SnO B p)).holds v w':=by
 obtain⟨A,c,rfl,ho,hb⟩:=h;exact⟨_,rfl,hb,A,c,rfl,B4 ho hB⟩
def Kk (B:Nat) (p:Sn) (v:Value) (w:World):Prop:= ∃A c L,v = .slice L 1 1/\Rd w w.heap.size 7 L 1 1 (nlV ⟨p,A,c⟩)/\w.ownsRow B 9 1 (.slice A p.ms.length c) p.ms.length (AY p.ms)
theorem U8 (B p):(Slot.has (Kk B p)).mono Ext:=λ_ _ _ he ⟨A,c,L,e,h,h2⟩=>⟨A,c,L,e,(h.below he).more he.size,Ag h2 he⟩
theorem U9 (w:World){B p A c}(h:w.ownsRow B 9 1 (.slice A p.ms.length c) p.ms.length (AY p.ms)):
 (Slot.has (Kk B p)).holds (.slice (gY w.heap.size 0) 1 1) (w.alloc (.cells (dO p A c) 43)):=by
 refine⟨A,c,_,rfl,?_,h.alloc _⟩;have:=Rd.lit w 43 (dO p A c) (n:=1) (sz:=7) rfl gm;exact this.more gj
theorem Ng (w b v0 v1 v2)(c0:w.cell? (gX b 0)=some v0)(c1:w.cell? (gX b 1)=some v1)(c2:w.cell? (gX b 2)=some v2):
 (loadVar 39 ⟨b,0,none⟩).run prog w = .ok (.agg #[v0,v1,v2]) w:=by
 go_simp
theorem Nh {fn p}(h:fn.results=#[.cell p 39])(tmps w){b v0 v1 v2}(hp:tmps.getD p undef = iq b 0)(hb:dH w b [v0,v1,v2]):
 (results fn tmps).run prog w = .ok (.agg #[v0,v1,v2]) w:=by
 rw[IJ h,hp];have:=Ng w b _ _ _ (hb.cell 0 _ rfl) (hb.cell 1 _ rfl) (hb.cell 2 _ rfl);simp[asAddr,Result.andThen,this]
theorem BA {fn p u}(h:fn.results=#[.cell p 39,.tmp u])(tmps w){b v0 v1 v2}(hp:tmps.getD p undef = iq b 0)(hb:dH w b [v0,v1,v2]):
 (results fn tmps).run prog w = .ok (.tuple #[.agg #[v0,v1,v2],tmps.getD u undef]) w:=by
 rw[results_cell_tmp h,hp];have:=Ng w b _ _ _ (hb.cell 0 _ rfl) (hb.cell 1 _ rfl) (hb.cell 2 _ rfl);simp[asAddr,Result.andThen,this]
def set3b (w:World) (b:Nat) (v0 v1 v2:Value):World:=((w.setCell ⟨b,0,none⟩ v0).setCell ⟨b,1,none⟩ v1).setCell ⟨b,2,none⟩ v2
section
variable {w:World} {b:Nat} {v0 v1 v2:Value}
theorem dH.set3b {u0 u1 u2:Value} (h:dH w b [u0,u1,u2]):dH (set3b w b v0 v1 v2) b [v0,v1,v2]:=((h.set (j:=0) v0 rfl).set (j:=1) v1 rfl).set (j:=2) v2 rfl
theorem BV {B w0}(h:Below B w0 w)(hb:B<=b):Below B w0 (set3b w b v0 v1 v2):=((h.setCell (p:=gX b 0) hb _).setCell (p:=gX b 1) hb _).setCell (p:=gX b 2) hb _
theorem dN.set3b {B sc nc:Nat} {sA nA:Option Addr} {ss:List Sl} {ns:List Nl} (h:dN w B sA sc ss nA nc ns) (hb:b<B):dN (set3b w b v0 v1 v2) B sA sc ss nA nc ns:=
 ((h.set (p:=gX b 0) hb v0).set (p:=gX b 1) hb v1).set (p:=gX b 2) hb v2
end
def dK (s:Sl):UInt32×List Fd:=(s.id,s.fs)
def dL (s:Nl):Sn:=s.p
def UA (w:World) (ss:List Sl) (ns:List Nl) (cur:Nat) (e:Ending) (w':World):Prop:=
 ∃sA sc ss' nA nc ns',e = .returned (.agg (dP sA ss'.length sc nA ns'.length nc cur))/\dN w' w.heap.size sA sc ss' nA nc ns'/\ss'.map dK=ss.map dK/\ns'.map dL=ns.map dL/\Below w.heap.size w w'
structure CI (w0:World) (b3:Nat) (cur:Nat) (sA:Option Addr) (sc:Nat) (ss:List Sl) (nA:Option Addr) (nc:Nat) (ns:List Nl) (wr:World):Prop where
 bx:dH wr b3 (dP sA ss.length sc nA ns.length nc cur).toList
 own:dN wr w0.heap.size sA sc ss nA nc ns
 below:Below b3 w0 wr
 lt:b3<w0.heap.size
theorem Ni {α β:Type}{f : α->β}{a b:List α}{k}[Inhabited α]{x : α}(h:a.map f=(b.take k).map f)(hk:k<b.length)(hx:f x=f (b.getD k default)):(a++[x]).map f=(b.take (k+1)).map f:=by
 rw[Cv,h,Cn,Cv];simp[hk,List.getD]at hx ⊢;exact hx
section
variable {w w':World} {B sz g n c:Nat} {e:TypeId} {xs:List Value}
theorem Hf (h:w.ownsRow B e sz (.slice (gY g 0) n c) n xs):∃cur,w.heap[g]? = some (.cells cur e (0,0))/\B<=g/\cur.size=c * sz/\n<=c/\c<=maxLen/\cur.toList.take (n * sz)=xs/\xs.length=n * sz:=by
 obtain⟨hl,h2⟩:=h;rcases h2 with ⟨q,_⟩|⟨g',cap,cur,q,hb,hc,hn,hm,hs,ht⟩
 .cases q
 injection q with q1 q2 q3;injection q1 with q1;injection q1 with q1;subst q1 q3;exact⟨cur,hc,hb,hs,hn,hm,ht,hl⟩
theorem Du (h:w.ownsRow B e sz (.slice (gY g 0) n c) n xs)(k u):(w.setCell (gX g k) u).ownsRow B e sz (.slice (gY g 0) n c) n (xs.set k u):=by
 obtain⟨cur,hc,hb,hs,hn,hm,ht,hl⟩:=Hf h;refine⟨by simp[hl],.inr ⟨g,c,cur.setIfInBounds k u,rfl,hb,?_,hn,hm,by simpa using hs,?_⟩⟩
 .simp[World.setCell,Array.getElem?_modify,hc]
 rw[Array.toList_setIfInBounds,List.take_set,ht]
theorem De (h:w.ownsRow B e sz (.slice (gY g 0) n c) n xs)(k):w.frozen? ⟨g,k,none⟩=false:=by
 obtain⟨cur,hc,_⟩:=Hf h;simp[World.frozen?,hc]
theorem Km (h:w.ownsRow B e sz (.slice (gY g 0) n c) n xs):B<=g/\g<w.heap.size:=by
 obtain⟨cur,hc,hb,_⟩:=Hf h;exact⟨hb,(EX.1 hc).1⟩
theorem JJ {base sz2 n2 e2 v2 xs2}(h2:w.ownsRow base e2 sz2 v2 n2 xs2)(h:w.ownsRow B e sz (.slice (gY g 0) n c) n xs)(ho:Oth g w w')(I:e2≠e):w'.ownsRow base e2 sz2 v2 n2 xs2:=by
 obtain⟨cur,hc,_⟩:=Hf h;refine h2.kept (row:=some g) ⟨ho.os,ho.tape,ho.output,ho.size,λk hk I=>ho.block k hk (λq=>I (by rw[q]))⟩ ?_;rcases h2.2 with ⟨rfl,_⟩|⟨g2,O,T,rfl,_,G,_⟩
 .exact .inl rfl
 refine .inr λq=>?_;simp only[Value.ownBlock]at q;injection q with q;subst q;rw[hc]at G;injection G with G;injection G with _ q2 _;exact I q2.symm
end
theorem Hg (a l):BQ (a::l)=nlV a++BQ l:=rfl
theorem Nj (v){v0 v1 v2 v3 v4 v5 v6}(hv:nlV v=[v0,v1,v2,v3,v4,v5,v6]):∀(arr:List Nl) (i:Nat),i<arr.length ->
 (((((((BQ arr).set (i * 7) v0).set (i * 7+1) v1).set (i * 7+2) v2).set (i * 7+3) v3).set (i * 7+4) v4).set (i * 7+5) v5).set (i * 7+6) v6=BQ (arr.set i v)
 | a::arr,0,_=>by
   rw[AH,Hg,Hg,hv];simp[nlV]
 | a::arr,i+1,h=>by
   have ih:=Nj v hv arr i (by simpa using h);rw[AI,Hg,Hg,<-ih];have e:∀t,(i+1) * 7+t=(i * 7+t)+1+1+1+1+1+1+1:=λt=>gd;have e0:(i+1) * 7=(i * 7)+1+1+1+1+1+1+1:=gd;rw[e 1,e 2,e 3,e 4,e 5,e 6,e0];simp[nlV]
abbrev Ps:=UInt32×List Fd
def ps0:Ps:=(0,[])
def FX (ss:List Ps) (i:Nat):Ps:=if i=0 then ps0 else ss.getD (i-1) ps0
def sOk (ss:List Ps) (i:Nat):Bool:=
 decide (check (ss.getD i ps0).1 (ss.getD i ps0).2=0)&&(decide ((FX ss i).1.toNat<(ss.getD i ps0).1.toNat)&&(decide ((FX ss i).2.length<=(ss.getD i ps0).2.length)&&DS ((ss.getD i ps0).2.take (FX ss i).2.length) (FX ss i).2))
def CK (ns:List Sn) (i:Nat):Sn:=if i=0 then default else ns.getD (i-1) default
def F0 (ss:List Ps) (id:UInt32):Bool:=ss.any λs=>(s.1.toNat:Int)==(id.toNat:Int)
def nOk (ss:List Ps) (ns:List Sn) (i:Nat):Bool:=
 decide ((CK ns i).id.toNat<(ns.getD i default).id.toNat)&&(decide ((ns.getD i default).id.toNat<=1073741824)&&(decide ((ns.getD i default).par.toNat<(ns.getD i default).id.toNat) &&
 (decide ((ns.getD i default).seq.toNat<=1073741824/\(ns.getD i default).off.toNat<=1073741824/\(ns.getD i default).tim.toNat<=1073741824) &&
 (decide ((CK ns i).seq.toNat<=(ns.getD i default).seq.toNat)&&(decide ((CK ns i).off.toNat<=(ns.getD i default).off.toNat)&&(decide ((CK ns i).tim.toNat<=(ns.getD i default).tim.toNat)&&(decide ((CK ns i).sch.toNat<=(ns.getD i default).sch.toNat) &&
 (BJ (ns.getD i default).ms&&F0 ss (ns.getD i default).sch))))))))
def B7 (ss:List Ps) (ns:List Sn) (cur:Nat):Bool:=
 decide (1<=ss.length/\ss.length<=16/\ns.length<=32)&&((List.range ss.length).all (sOk ss)&&((List.range ns.length).all (nOk ss ns)&&decide (cur=(CK ns ns.length).id.toNat)))
theorem Gc (ss:List Sl)(i):(ss.map dK).getD i ps0=dK (ss.getD i default):=by
 simp[List.getD];cases ss[i]? <;> rfl
theorem JK (ns:List Nl)(i):(ns.map dL).getD i default=dL (ns.getD i default):=by
 simp[List.getD];cases ns[i]? <;> rfl
theorem Nk (ss k):FX ss (k+1)=ss.getD k ps0:=by unfold FX;simp
theorem JL (ns k):CK ns (k+1)=ns.getD k default:=by unfold CK;simp
theorem Nm (ss id):F0 (ss.map dK) id=decide (0<=cIx ss id):=by
 unfold cIx F0;rw[IK,List.any_map];rfl
section
variable {ss:List Ps} {ns:List Sn} {i:Nat} {s was:Ps}
theorem Kn (hs:ss.getD i ps0=s)(hw:FX ss i=was):sOk ss i=(decide (check s.1 s.2=0)&&(decide (was.1.toNat<s.1.toNat)&&(decide (was.2.length<=s.2.length)&&DS (s.2.take was.2.length) was.2))):=by
 unfold sOk;rw[hs,hw]
theorem Nn {s was}(hs:ns.getD i default=s)(hw:CK ns i=was):nOk ss ns i=(decide (was.id.toNat<s.id.toNat)&&(decide (s.id.toNat<=1073741824)&&(decide (s.par.toNat<s.id.toNat)&&(decide (s.seq.toNat<=1073741824/\s.off.toNat<=1073741824/\s.tim.toNat<=1073741824) &&
 (decide (was.seq.toNat<=s.seq.toNat)&&(decide (was.off.toNat<=s.off.toNat)&&(decide (was.tim.toNat<=s.tim.toNat)&&(decide (was.sch.toNat<=s.sch.toNat)&&(BJ s.ms&&F0 ss s.sch))))))))):=by
 unfold nOk;rw[hs,hw]
theorem Hh {cur}(h:¬(1<=ss.length/\ss.length<=16/\ns.length<=32)):B7 ss ns cur=false:=by unfold B7;rw[AG h];rfl
theorem Fw {cur}(hi:i<ss.length)(h:sOk ss i=false):B7 ss ns cur=false:=by
 unfold B7;rw[FV hi h];simp
theorem Gd {cur}(hi:i<ns.length)(h:nOk ss ns i=false):B7 ss ns cur=false:=by
 unfold B7;rw[FV hi h];simp
theorem Np {cur}(h:1<=ss.length/\ss.length<=16/\ns.length<=32)(hs:∀j,j<ss.length->sOk ss j=true)(hn:∀j,j<ns.length->nOk ss ns j=true):B7 ss ns cur=decide (cur=(CK ns ns.length).id.toNat):=by
 unfold B7;rw[AF h,Gb hs,Gb hn];rfl
end
