/- WHAT SERVES THE TABLES' STATEMENTS, part 0: D0. No statement of the seat is proved here. -/
import Derived.WalkKit
import Derived.WalkSpells
import Derived.WalkLawsBesides
import Derived.Deep.Draws
import Derived.Deep.AppendLies
import Derived.Maps.AppendAt
import Derived.BigQuiet
import Derived.Deep.QuietTactic
import Derived.Deep.RegionWith
import Derived.Handy
import Derived.Lib.DecodeN
import Derived.Lib.RuneCountTail
import Derived.Laws.RangeAny
import Derived.Test.YtpfofefecamkfaaGreatDoorProg
namespace Go.Proofs.YtpfofefecamkfaaGreatDoor
theorem zA0 {α:Type} {l:List α} {i:Nat} {a:α}:l.toArray.setIfInBounds i a = (l.set i a).toArray:=List.setIfInBounds_toArray ..
theorem zB0 {α:Type} {a b:α} {l:List α}:(a::l).set 0 b = b::l:=rfl
theorem zC0 {α:Type} {a b:α} {l:List α} {n:Nat}:(a::l).set (n+1) b = a::l.set n b:=rfl
open Go.RowKit
set_option maxRecDepth 100000

section
section
open Go.RowKit

theorem hide {p:Prop} (h:p):Hid p:=h

/-! ### Slices that read a list of cells -/
structure Rd (w:World) (B sz:Nat) (A:Option Addr) (n c:Nat) (xs:List Value):Prop where
 len:xs.length = n * sz
 le:n ≤ c
 cap:c ≤ maxLen
 at_:0 < n → ∃ b off,A = some ⟨b,off,none⟩ ∧ b < B ∧ ∀ j u,xs[j]? = some u → w.cell? ⟨b,off + j,none⟩ = some u

section
variable {w w':World} {B B' sz n c:Nat} {A:Option Addr} {xs:List Value}

theorem Rd.keep (h:Rd w B sz A n c xs) (hk:∀ p:Addr,p.block < B → w'.cell? p = w.cell? p):Rd w' B sz A n c xs :=
 ⟨h.len,h.le,h.cap,fun hn => by
  obtain ⟨b,off,e,hb,hc⟩:=h.at_ hn
  exact ⟨b,off,e,hb,fun j u hu => (hk ⟨b,off + j,none⟩ hb).trans (hc j u hu)⟩⟩
theorem Rd.more (h:Rd w B sz A n c xs) (hB:B ≤ B'):Rd w B' sz A n c xs :=
 ⟨h.len,h.le,h.cap,fun hn => by
  obtain ⟨b,off,e,hb,hc⟩:=h.at_ hn
  exact ⟨b,off,e,Nat.lt_of_lt_of_le hb hB,hc⟩⟩
theorem Rd.below (h:Rd w B sz A n c xs) (hb:Below B w w'):Rd w' B sz A n c xs:=h.keep fun _ hp => hb.cell hp
theorem Rd.below' (h:Rd w B sz A n c xs) (hb:Below B' w w') (hB:B ≤ B'):Rd w' B sz A n c xs:=h.keep fun _ hp => hb.cell (Nat.lt_of_lt_of_le hp hB)
theorem Rd.alloc (h:Rd w B sz A n c xs) (hB:B ≤ w.heap.size) (o:Obj):Rd (w.alloc o) B sz A n c xs:=h.below ((Below.refl B w).alloc hB o)
theorem Rd.drew (h:Rd w B sz A n c xs):Rd w.drew B sz A n c xs:=h.keep fun _ _ => rfl
theorem Rd.cellAt (h:Rd w B sz A n c xs) {k:Nat} (hk:k < xs.length):∃ b off,A = some ⟨b,off,none⟩ ∧ b < B ∧ w.cell? ⟨b,off + k,none⟩ = some xs[k]:=by
 have hn:0 < n:=by
  rcases Nat.eq_zero_or_pos n with h0 | h0
  ·have:=h.len;rw [h0] at this;omega
  ·exact h0
 obtain ⟨b,off,e,hb,hc⟩:=h.at_ hn
 exact ⟨b,off,e,hb,hc k _ (List.getElem?_eq_getElem hk)⟩
theorem Rd.nil (w:World) (B sz:Nat):Rd w B sz none 0 0 []:=⟨by simp,Nat.le_refl _,Nat.zero_le _,fun h => absurd h (by omega)⟩
theorem Rd.of_own {base:Nat} {e:TypeId} {v:Value} (h:w.ownsRow base e sz v n xs):∃ A c,v = .slice A n c ∧ Rd w w.heap.size sz A n c xs:=by
 rcases h.2 with ⟨rfl,rfl⟩ | ⟨g,cap,cur,rfl,hb,hg,hnc,hm,hcur,htake⟩
 ·have hx:xs = []:=List.eq_nil_of_length_eq_zero (by simpa using h.1)
  subst hx
  exact ⟨none,0,rfl,Rd.nil _ _ _⟩
 ·refine ⟨some ⟨g,0,none⟩,cap,rfl,h.1,hnc,hm,fun _ => ⟨g,0,rfl,(Array.getElem?_eq_some_iff.1 hg).1,fun j u hu => ?_⟩⟩
  have:=World.ownsRow.cells (w:=w) h (g:=g) rfl j u hu
  simpa [Addr.add_lit] using this
/-- a literal's block -/
theorem Rd.lit (w:World) (e:TypeId) (cs:Array Value) (hl:cs.size = n * sz) (hm:n ≤ maxLen) :
 Rd (w.alloc (.cells cs e)) (w.heap.size + 1) sz (some ⟨w.heap.size,0,none⟩) n n cs.toList :=
 ⟨by simpa using hl,Nat.le_refl _,hm,fun _ => ⟨w.heap.size,0,rfl,by omega,fun j u hu => by
  rw [cell_of_row _ _ _ cs e (0,0) (heap_alloc_new w _)]
  simpa using hu⟩⟩
/-- a beginning 's[:hi]' -/
theorem Rd.pre (h:Rd w B sz A n c xs) {hi:Nat} (h2:hi ≤ n):Rd w B sz A hi c (xs.take (hi * sz)) :=
 ⟨by rw [List.length_take,h.len];exact Nat.min_eq_left (Nat.mul_le_mul_right _ h2),Nat.le_trans h2 h.le,h.cap,fun hn => by
  obtain ⟨b,off,e,hb,hc⟩:=h.at_ (by omega)
  refine ⟨b,off,e,hb,fun j u hu => hc j u ?_⟩
  have hj:j < hi * sz:=by
   have:=(List.getElem?_eq_some_iff.1 hu).1
   simp at this
   omega
  rwa [List.getElem?_take,if_pos hj] at hu⟩
/-- a cut 's[lo:hi]' -/
theorem Rd.cut (h:Rd w B sz A n c xs) {lo hi:Nat} (h1:lo ≤ hi) (h2:hi ≤ n) :
 Rd w B sz (if c = lo then A else A.map (·.add (lo * sz))) (hi - lo) (c - lo) ((xs.drop (lo * sz)).take ((hi - lo) * sz)):=by
 refine ⟨?_,by have:=h.le;omega,by have:=h.cap;omega,fun hn => ?_⟩
 ·rw [List.length_take,List.length_drop,h.len,← Nat.sub_mul]
  exact Nat.min_eq_left (Nat.mul_le_mul_right _ (by omega))
 ·obtain ⟨b,off,rfl,hb,hc⟩:=h.at_ (by omega)
  rw [if_neg (by have:=h.le;omega)]
  refine ⟨b,off + lo * sz,by simp [Addr.add_lit],hb,fun j u hu => ?_⟩
  rw [Nat.add_assoc]
  refine hc _ u ?_
  have hj:j < (hi - lo) * sz:=by
   have:=(List.getElem?_eq_some_iff.1 hu).1
   simp at this
   omega
  rw [List.getElem?_take,if_pos hj,List.getElem?_drop] at hu
  exact hu
end

/-! ### Types of slices -/
structure STy (P:Program) (t e:TypeId) (sz by_:Nat) (z:Value):Prop where
 ut:P.underlying t = some (.slice e)
 inf:(P.info? e).map (fun i => (i.zero,i.size,i.bytes)) = some (some z,sz,by_)
 zs:z.cells.size = sz
 pos:0 < sz
 bpos:0 < by_

/-! ### cuts, as equations for the walk -/
section
variable {P:Program} {t e:TypeId} {sz by_:Nat} {z:Value}
theorem run_cut_hi (T:STy P t e sz by_ z) (A:Option Addr) (n c:Nat) (k:IntKind) (h:Int) (hi:Nat) (he:h = (hi:Int)) (h2:hi ≤ c) (w:World) :
 (Instr.slice t (.slice A n c) none (some (.int k h)) none).run P w = .ok (.slice A hi c) w:=by
 obtain ⟨i,hi',hz,hs,hb⟩:=info_parts T.inf
 subst he
 have e0:A.map (fun x => x.add 0) = A:=by cases A <;> simp [Addr.add]
 simp [Instr.slice,run_underlying T.ut,Instr.sliceBounds,run_sliceBound,sizeOf,typeInfo,hi',h2,e0]
theorem run_cut_lo (T:STy P t e sz by_ z) (A:Option Addr) (n c:Nat) (k:IntKind) (l:Int) (lo:Nat) (he:l = (lo:Int)) (h1:lo ≤ n) (_h2:n ≤ c) (w:World) :
 (Instr.slice t (.slice A n c) (some (.int k l)) none none).run P w = .ok (.slice (if c = lo then A else A.map (·.add (lo * sz))) (n - lo) (c - lo)) w:=by
 obtain ⟨i,hi',hz,hs,hb⟩:=info_parts T.inf
 subst he
 simp [Instr.slice,run_underlying T.ut,Instr.sliceBounds,run_sliceBound,sizeOf,typeInfo,hi',h1,hs]
theorem cut_hi (T:STy P t e sz by_ z) (A:Option Addr) (n c:Nat) (k:IntKind) (h:Int) (hi:Nat) (he:h = (hi:Int)) (h2:hi ≤ c) (w:World) :
 (Instr.sliceAt t (.slice A n c) none (some (.int k h)) none).run P w = .ok (.slice A hi c) w:=by
 simp only [Instr.sliceAt,Sem.run_bind,run_underlying T.ut,Result.andThen]
 exact run_cut_hi T A n c k h hi he h2 w
theorem cut_lo (T:STy P t e sz by_ z) (A:Option Addr) (n c:Nat) (k:IntKind) (l:Int) (lo:Nat) (he:l = (lo:Int)) (h1:lo ≤ n) (h2:n ≤ c) (w:World) :
 (Instr.sliceAt t (.slice A n c) (some (.int k l)) none none).run P w = .ok (.slice (if c = lo then A else A.map (·.add (lo * sz))) (n - lo) (c - lo)) w:=by
 simp only [Instr.sliceAt,Sem.run_bind,run_underlying T.ut,Result.andThen]
 exact run_cut_lo T A n c k l lo he h1 h2 w
end

/-! ### append onto a row of the call's own -/
section
variable {P:Program} (w:World)

theorem run_app {t e:TypeId} {sz by_:Nat} {z:Value} (T:STy P t e sz by_ z) (base:Nat) (ty:TypeId)
 (v:Value) (n:Nat) (xs:List Value) (hown:w.ownsRow base e sz v n xs)
 (B:Nat) (A:Option Addr) (m c:Nat) (news:List Value) (hr:Rd w B sz A m c news) (h1:∀ u ∈ news,u.oneCell' = true)
 (hbytes:(n + m) * by_ ≤ 140737488355328) (hbase:base ≤ w.heap.size) :
 ∃ v' w',(Builtin.append_ #[t,t] ty #[v,.slice A m c]).run P w = .ok v' w' ∧ w'.ownsRow base e sz v' (n + m) (xs ++ news) ∧ w.grownBy w' v.ownBlock ∧
  (v'.ownBlock = v.ownBlock ∨ v'.ownBlock = some w.heap.size):=by
 obtain ⟨i,hi,hz,hs,hb⟩:=info_parts T.inf
 have h63:n + m ≤ maxLen:=by
  have:=Nat.le_mul_of_pos_right (n + m) T.bpos
  simp only [maxLen];omega
 rcases A with _ | ad
 ·have hm:m = 0:=by
   rcases Nat.eq_zero_or_pos m with h0 | h0
   ·exact h0
   ·obtain ⟨b,off,h,_⟩:=hr.at_ h0
    cases h
  subst hm
  have hn:news = []:=List.eq_nil_of_length_eq_zero (by simpa using hr.len)
  subst hn
  refine ⟨v,w,?_,by simpa using hown,World.grownBy.refl w _,.inl rfl⟩
  rcases hown.2 with ⟨rfl,rfl⟩ | ⟨g,cap,cur,rfl,_,_,hnc,_⟩
  ·simp [Builtin.append_,run_underlying T.ut,sizeOf,typeInfo,hi,Builtin.lenOf,Builtin.firstCells]
  ·simp [Builtin.append_,run_underlying T.ut,sizeOf,typeInfo,hi,Builtin.lenOf,Builtin.firstCells,hnc,storeCells]
 ·have hcells:∀ j u,news[j]? = some u → w.cell? (ad.add j) = some u:=by
   intro j u hu
   rcases Nat.eq_zero_or_pos m with h0 | h0
   ·subst h0
    have hn:news = []:=List.eq_nil_of_length_eq_zero (by simpa using hr.len)
    subst hn
    simp at hu
   ·obtain ⟨b,off,h,_,hc⟩:=hr.at_ h0
    injection h with h
    subst h
    rw [Addr.add_lit]
    exact hc j u hu
  obtain ⟨v',w',hrun,h2,h3,_,h5⟩:=run_append_own_at (P:=P) w base t ty e i z sz by_ T.ut hi hz hs hb T.zs T.pos v n xs hown ad m c news hr.len hcells h1 h63 hbytes hbase
  exact ⟨v',w',hrun,h2,h3,h5⟩

theorem wp_app {t e:TypeId} {sz by_:Nat} {z:Value} {o:Oper} {a:Act} {K:Act → World → Prop} {Q:Exit → Act → World → Prop} (T:STy P t e sz by_ z) (s x:Operand)
 (ho:o.op = .call { callee:=.builtin .append,args:=#[s,x],argTypes:=#[t,t] }) (base:Nat)
 (v:Value) (n:Nat) (xs:List Value) (hs:a.eval s = v) (hown:w.ownsRow base e sz v n xs)
 (B:Nat) (A:Option Addr) (m c:Nat) (news:List Value) (hx:a.eval x = .slice A m c) (hr:Rd w B sz A m c news) (h1:∀ u ∈ news,u.oneCell' = true)
 (hbytes:(n + m) * by_ ≤ 140737488355328) (hbase:base ≤ w.heap.size)
 (h:∀ v' w',w'.ownsRow base e sz v' (n + m) (xs ++ news) → w.grownBy w' v.ownBlock → (v'.ownBlock = v.ownBlock ∨ v'.ownBlock = some w.heap.size) → K (a.put o.dst v') w'):o.wp P a w K Q:=by
 obtain ⟨v',w',hrun,h2,h3,h4⟩:=run_app (P:=P) w T base o.type v n xs hown B A m c news hr h1 hbytes hbase
 unfold Oper.wp execOp
 simp only [ho,resolve,invoke,builtin,Sem.run_bind,Sem.run_pure,Result.andThen_ok,List.map_toArray,List.map_cons,List.map_nil,hs,hx,hrun]
 exact h v' w' h2 h3 h4

theorem wpList_app {t e:TypeId} {sz by_:Nat} {z:Value} {ops:Array Oper} {rest:List Oper} {o:Oper} {a:Act} {Q:Exit → Act → World → Prop} (T:STy P t e sz by_ z) (hgd:o.guard = none) (s x:Operand)
 (ho:o.op = .call { callee:=.builtin .append,args:=#[s,x],argTypes:=#[t,t] }) (base:Nat)
 (v:Value) (n:Nat) (xs:List Value) (hs:a.eval s = v) (hown:w.ownsRow base e sz v n xs)
 (B:Nat) (A:Option Addr) (m c:Nat) (news:List Value) (hx:a.eval x = .slice A m c) (hr:Rd w B sz A m c news) (h1:∀ u ∈ news,u.oneCell' = true)
 (hbytes:(n + m) * by_ ≤ 140737488355328) (hbase:base ≤ w.heap.size)
 (h:∀ v' w',w'.ownsRow base e sz v' (n + m) (xs ++ news) → w.grownBy w' v.ownBlock → (v'.ownBlock = v.ownBlock ∨ v'.ownBlock = some w.heap.size) → wpList P ops Q rest (a.put o.dst v') w') :
 wpList P ops Q (o :: rest) a w :=
 wpList_plain hgd fun _ hK => wp_app w T s x ho base v n xs hs hown B A m c news hx hr h1 hbytes hbase fun v' w' h2 h3 h4 => hK _ _ (h v' w' h2 h3 h4)
end

/-- behind an append: what lies below the own row's base is as it was -/
theorem below_app {B base:Nat} {w0 w w':World} {v:Value} {n:Nat} {xs:List Value} {e:TypeId} {sz:Nat} (hb:Below B w0 w) (hB:B ≤ base) (hown:w.ownsRow base e sz v n xs)
 (hg:w.grownBy w' v.ownBlock) (hz:B ≤ w.heap.size):Below B w0 w' :=
 hb.grown hg hz fun k hk => Nat.le_trans hB (hown.lt k hk).1

theorem own_below {base:Nat} {w w':World} {v:Value} {n:Nat} {xs:List Value} {e:TypeId} {sz:Nat} (h:w.ownsRow base e sz v n xs) (hb:Below w.heap.size w w'):w'.ownsRow base e sz v n xs :=
 h.kept (row:=none) ⟨hb.os,hb.tape,hb.output,hb.size,fun k hk _ => hb.block k hk⟩ (by cases hv:v.ownBlock <;> simp)
theorem own_base {base base':Nat} {w:World} {v:Value} {n:Nat} {xs:List Value} {e:TypeId} {sz:Nat} (h:w.ownsRow base e sz v n xs) (hb:base' ≤ base):w.ownsRow base' e sz v n xs :=
 ⟨h.1,h.2.imp id fun ⟨g,cap,cur,hv,hg,r⟩ => ⟨g,cap,cur,hv,Nat.le_trans hb hg,r⟩⟩
theorem own_lit (w:World) {base:Nat} (e:TypeId) (sz n:Nat) (cs:Array Value) (hb:base ≤ w.heap.size) (hm:n ≤ maxLen) (hs:cs.size = n * sz) :
 (w.alloc (.cells cs e)).ownsRow base e sz (.slice (some ⟨w.heap.size,0,none⟩) n n) n cs.toList :=
 World.ownsRow_lit w cs n hb hm hs

theorem below_of_drew {B:Nat} {w w':World} (h:Below B w.drew w'):Below B w w':=(Below.refl B w).drew.trans h

/-- behind a call that leaves what was there -/
theorem below_call {B:Nat} {w0 w w':World} (h:Below B w0 w) (hB:B ≤ w.heap.size) (hc:Below w.heap.size w w'):Below B w0 w':=h.trans (hc.mono hB)

/-- the call gives a row of its own that holds xs; what was there is as it was -/
def RetRow (w:World) (t:TypeId) (sz n:Nat) (xs:List Value) (e:Ending) (w':World):Prop :=
 ∃ v,e = .returned v ∧ w'.ownsRow w.heap.size t sz v n xs ∧ Below w.heap.size w w'
theorem Rd.none_ {w:World} {B sz n c:Nat} {xs:List Value} (h:Rd w B sz none n c xs):n = 0 ∧ xs = []:=by
 rcases Nat.eq_zero_or_pos n with h0 | h0
 ·subst h0;exact ⟨rfl,List.eq_nil_of_length_eq_zero (by simpa using h.len)⟩
 ·obtain ⟨b,off,e,_⟩:=h.at_ h0;cases e

/-! ### Bytes -/
def byteV (b:UInt8):Value:=.int .u8 (b.toNat:Int)
def bytesV (l:List UInt8):List Value:=l.map byteV
theorem bytesV_length (l:List UInt8):(bytesV l).length = l.length:=by simp [bytesV]
theorem bytesV_append (a b:List UInt8):bytesV (a ++ b) = bytesV a ++ bytesV b:=by simp [bytesV]
theorem bytesV_one (l:List UInt8):∀ u ∈ bytesV l,u.oneCell' = true:=by
 intro u hu
 obtain ⟨_,_,rfl⟩:=List.mem_map.1 hu
 rfl
theorem bytesV_get (l:List UInt8) (k:Nat) (hk:k < l.length):(bytesV l)[k]? = some (byteV l[k]):=by simp [bytesV,hk]

theorem one_int (k:IntKind) (n:Int):∀ u ∈ #[Value.int k n].toList,u.oneCell' = true:=by
 intro u hu
 have:u = .int k n:=by simpa using hu
 subst this
 rfl

/-- 'string(b)' of a slice that reads the bytes l -/
theorem run_str {P:Program} (w:World) {src dst e:TypeId} {B n c:Nat} {A:Option Addr} {l:List UInt8} (hs:P.underlying src = some (.slice e)) (he:P.underlying e = some (.int .u8)) (hd:P.underlying dst = some .string)
 (h:Rd w B 1 A n c (bytesV l)):(convert src dst (.slice A n c)).run P w = .ok (.string ⟨l.toArray⟩) w:=by
 have hn:n = l.length:=by have:=h.len;simp [bytesV] at this;omega
 subst hn
 rcases Nat.eq_zero_or_pos l.length with h0 | h0
 ·have hl:l = []:=List.eq_nil_of_length_eq_zero h0
  subst hl
  rcases A with _ | ad
  ·rw [run_convert_bytes_string w src dst e _ _ c hs he hd]
   rfl
  ·exact run_convert_bytes_back w src dst e ad c [] hs he hd (fun j hj => absurd hj (by simp))
 ·obtain ⟨b,off,rfl,_,hc⟩:=h.at_ h0
  refine run_convert_bytes_back w src dst e _ c l hs he hd (fun j hj => ?_)
  rw [Addr.add_lit]
  exact hc j _ (bytesV_get l j hj)
end


theorem tyBytes:STy Tryz.prog 55 5 1 1 (.int .u8 0):=⟨Tryz.underlying55,by kernel_rfl,rfl,by decide,by decide⟩

/-- the call gives the bytes l in a row of its own; what was there is as it was -/
def RetBytes (w:World) (l:List UInt8) (e:Ending) (w':World):Prop :=
 ∃ v,e = .returned v ∧ w'.ownsRow w.heap.size 5 1 v l.length (bytesV l) ∧ Below w.heap.size w w'


/-- the call gives v; what was there is as it was -/
def RetVal (w:World) (v:Value) (e:Ending) (w':World):Prop:=e = .returned v ∧ Below w.heap.size w w'

section
open Go.Lib

def sgn (s:ByteArray) (p:Nat):Nat:=(Utf8.decode s p).1
def wid (s:ByteArray) (p:Nat):Nat:=(Utf8.decode s p).2
theorem wid_pos (s:ByteArray) (p:Nat) (h:p < s.size):0 < wid s p:=Lib.decode_width_pos s p h

/-- a sign that belongs to bytes that are one's -/
def cleanAt (s:ByteArray) (p:Nat):Bool:=!(decide (sgn s p = 65533) && decide (wid s p = 1))
/-- a sign that may stand in a name at place p -/
def fairAt (s:ByteArray) (p:Nat):Bool:=decide (97 ≤ sgn s p ∧ sgn s p ≤ 122 ∨ sgn s p = 95 ∨ 127 < sgn s p ∨ 48 ≤ sgn s p ∧ sgn s p ≤ 57 ∧ 0 < p)
/-- so at each place at which a sign begins -/
def allFrom (s:ByteArray) (q:Nat → Bool):Nat → Nat → Bool
 | 0,_ => true
 | b + 1,p => if p < s.size then q p && allFrom s q b (p + wid s p) else true
theorem allFrom_end (s:ByteArray) (q:Nat → Bool) (b p:Nat) (h:¬ p < s.size):allFrom s q b p = true:=by
 cases b with
 | zero => rfl
 | succ b => simp [allFrom,h]
theorem allFrom_no (s:ByteArray) (q:Nat → Bool) (b p:Nat) (h:p < s.size) (hb:s.size ≤ p + b) (hq:q p = false):allFrom s q b p = false:=by
 cases b with
 | zero => omega
 | succ b => simp [allFrom,h,hq]
theorem allFrom_yes (s:ByteArray) (q:Nat → Bool) (b p:Nat) (h:p < s.size) (hb:s.size ≤ p + b) (hq:q p = true):∃ b',allFrom s q b p = allFrom s q b' (p + wid s p) ∧ s.size ≤ p + wid s p + b':=by
 have:=wid_pos s p h
 cases b with
 | zero => omega
 | succ b => exact ⟨b,by simp [allFrom,h,hq],by omega⟩
def isClean (s:ByteArray):Bool:=allFrom s (cleanAt s) s.size 0
def isFair (s:ByteArray):Bool:=allFrom s (fairAt s) s.size 0
/-- may a field's name be? -/
def named (s:ByteArray):Bool:=decide (1 ≤ s.size) && decide (s.size ≤ 16) && isClean s && isFair s

/-! ### one sign, by its bytes -/
theorem decodeN_low (n b0 b1 b2 b3:Nat) (h:b0 < 128):decodeN n b0 b1 b2 b3 = (b0,1):=by unfold decodeN;rw [if_pos h]
/-- what U+FFFD is decoded of: its own three bytes, or bytes that are none's -/
theorem decodeN_odd (n b0 b1 b2 b3:Nat) (h0:b0 < 256) (h1:b1 < 256) (h2:b2 < 256) (h:(decodeN n b0 b1 b2 b3).1 = 65533) :
 (decodeN n b0 b1 b2 b3).2 = 1 ∧ ¬ (2 < n ∧ b0 = 239 ∧ b1 = 191 ∧ b2 = 189) ∨ (decodeN n b0 b1 b2 b3).2 = 3 ∧ 2 < n ∧ b0 = 239 ∧ b1 = 191 ∧ b2 = 189:=by
 by_cases hq:2 < n ∧ b0 = 239 ∧ b1 = 191 ∧ b2 = 189
 ·refine .inr ⟨?_,hq⟩
  obtain ⟨hn2,rfl,rfl,rfl⟩:=hq
  unfold decodeN
  simp [hn2,show 1 < n by omega]
 ·refine .inl ⟨?_,hq⟩
  generalize hr:decodeN n b0 b1 b2 b3 = r at *
  unfold decodeN at hr
  repeat' split at hr
  all_goals (subst hr;dsimp only at h ⊢;try omega)
def hasPre (a b:ByteArray):Bool:=decide (b.size ≤ a.size) && ((a.extract 0 b.size).toList == b.toList)
theorem pre_odd (t:ByteArray):hasPre t ⟨#[239,191,189]⟩ = decide (2 < t.size ∧ (t.get! 0).toNat = 239 ∧ (t.get! 1).toNat = 191 ∧ (t.get! 2).toNat = 189):=by
 unfold hasPre
 have e0:(ByteArray.mk #[239,191,189]).toList = [239,191,189]:=by rw [Lib.toList_data]
 have e1:(ByteArray.mk #[239,191,189]).size = 3:=rfl
 have e2:(t.extract 0 3).toList = t.data.toList.take 3:=by
  rw [Lib.toList_data,ByteArray.data_extract,Array.toList_extract]
  simp
 rw [e0,e1,e2,← Lib.getD_get!',← Lib.getD_get!',← Lib.getD_get!',Lib.size_eq]
 generalize t.data.toList = L
 rcases L with _ | ⟨a,_ | ⟨b,_ | ⟨c,L⟩⟩⟩
 ·simp
 ·simp
 ·simp
 ·rw [Bool.eq_iff_iff]
  simp [← UInt8.toNat_inj]
theorem clean_pre (s:ByteArray) (p:Nat) (_h:p < s.size):(decide (sgn s p = 65533) && !hasPre (s.extract p s.size) ⟨#[239,191,189]⟩) = !cleanAt s p:=by
 rw [pre_odd]
 have e:=Lib.tail_decode s p 0
 rw [Lib.decode_at] at e
 simp only [Nat.zero_add,Nat.sub_zero,Nat.add_zero] at e
 have hs:sgn s p = (Utf8.decode s p).1:=rfl
 have hw:wid s p = (Utf8.decode s p).2:=rfl
 rw [← e] at hs hw
 unfold cleanAt
 rw [hs,hw]
 have h0:=((s.extract p s.size).get! 0).toNat_lt
 have h1:=((s.extract p s.size).get! 1).toNat_lt
 have h2:=((s.extract p s.size).get! 2).toNat_lt
 have h3:=decodeN_odd (s.extract p s.size).size ((s.extract p s.size).get! 0).toNat ((s.extract p s.size).get! 1).toNat ((s.extract p s.size).get! 2).toNat ((s.extract p s.size).get! 3).toNat h0 h1 h2
 clear e hs hw h0 h1 h2
 generalize s.extract p s.size = t at *
 generalize decodeN t.size (t.get! 0).toNat (t.get! 1).toNat (t.get! 2).toNat (t.get! 3).toNat = r at *
 generalize hb:decide (2 < t.size ∧ (t.get! 0).toNat = 239 ∧ (t.get! 1).toNat = 191 ∧ (t.get! 2).toNat = 189) = b
 by_cases h:r.1 = 65533
 ·rcases h3 h with ⟨a,q⟩ | ⟨a,q⟩
  ·have:b = false:=by rw [← hb];exact decide_eq_false q
   simp [h,a,this]
  ·have:b = true:=by rw [← hb];exact decide_eq_true q
   simp [h,a,this]
 ·simp [h]
/-- the three classes of a sign's first byte: how many bytes, the least number, what the first byte is above -/
def Cls (k least base b0:Nat):Prop:=(k = 2 ∧ least = 128 ∧ base = 192 ∧ 194 ≤ b0 ∧ b0 < 224) ∨ (k = 3 ∧ least = 2048 ∧ base = 224 ∧ 224 ≤ b0 ∧ b0 < 240) ∨ (k = 4 ∧ least = 65536 ∧ base = 240 ∧ 240 ≤ b0 ∧ b0 < 245)
/-- the number behind j more bytes -/
def val (b:Nat → Nat) (n0:Nat):Nat → Nat
 | 0 => n0
 | j + 1 => val b n0 j * 64 + b (j + 1) - 128
theorem val_1 (b:Nat → Nat) (n0:Nat):val b n0 1 = n0 * 64 + b 1 - 128:=rfl
theorem val_2 (b:Nat → Nat) (n0:Nat):val b n0 2 = (n0 * 64 + b 1 - 128) * 64 + b 2 - 128:=rfl
theorem val_3 (b:Nat → Nat) (n0:Nat):val b n0 3 = ((n0 * 64 + b 1 - 128) * 64 + b 2 - 128) * 64 + b 3 - 128:=rfl
section
open Go.Lib
variable {k least base n:Nat} {b:Nat → Nat}
theorem cls_none (h0:b 0 < 256) (h:¬ b 0 < 128) (h1:¬ (194 ≤ b 0 ∧ b 0 < 245)):decodeN n (b 0) (b 1) (b 2) (b 3) = (65533,1):=by
 unfold decodeN
 rw [if_neg h]
 repeat' split
 all_goals first | rfl | (exfalso;omega)
theorem cls_short (hc:Cls k least base (b 0)) (h:n < k):decodeN n (b 0) (b 1) (b 2) (b 3) = (65533,1):=by
 unfold decodeN
 rcases hc with ⟨rfl,rfl,rfl,h1,h2⟩ | ⟨rfl,rfl,rfl,h1,h2⟩ | ⟨rfl,rfl,rfl,h1,h2⟩ <;> rw [if_neg (by omega)] <;> (repeat' split) <;> first | rfl | (exfalso;omega)
theorem cls_cut (hc:Cls k least base (b 0)) (j:Nat) (h1:1 ≤ j) (h2:j < k) (hb:b j < 256) (h:b j < 128 ∨ 192 ≤ b j):decodeN n (b 0) (b 1) (b 2) (b 3) = (65533,1):=by
 unfold decodeN
 have hj:j = 1 ∨ j = 2 ∨ j = 3:=by unfold Cls at hc;omega
 rcases hc with ⟨rfl,rfl,rfl,h3,h4⟩ | ⟨rfl,rfl,rfl,h3,h4⟩ | ⟨rfl,rfl,rfl,h3,h4⟩ <;> rw [if_neg (by omega)] <;> rcases hj with rfl | rfl | rfl <;> (repeat' split) <;> first | rfl | (exfalso;omega)
theorem cls_all (hc:Cls k least base (b 0)) (hn:k ≤ n) (h:∀ j,1 ≤ j → j < k → 128 ≤ b j ∧ b j < 192) :
 decodeN n (b 0) (b 1) (b 2) (b 3) = if val b (b 0 - base) (k - 1) < least ∨ 1114111 < val b (b 0 - base) (k - 1) ∨ 55296 ≤ val b (b 0 - base) (k - 1) ∧ val b (b 0 - base) (k - 1) < 57344 then (65533,1) else (val b (b 0 - base) (k - 1),k):=by
 rcases hc with ⟨rfl,rfl,rfl,h3,h4⟩ | ⟨rfl,rfl,rfl,h3,h4⟩ | ⟨rfl,rfl,rfl,h3,h4⟩
 ·have q1:=h 1 (by omega) (by omega)
  rw [show 2 - 1 = 1 from rfl,val_1]
  clear h
  generalize b 0 = x0 at *;generalize b 1 = x1 at *;generalize b 2 = x2 at *;generalize b 3 = x3 at *
  unfold decodeN
  rw [if_neg (by omega),if_pos (by omega)]
  split <;> split <;> first | with_reducible rfl | (exfalso;omega) | (apply Prod.ext <;> simp only <;> omega)
 ·have q1:=h 1 (by omega) (by omega)
  have q2:=h 2 (by omega) (by omega)
  rw [show 3 - 1 = 2 from rfl,val_2]
  clear h
  generalize b 0 = x0 at *;generalize b 1 = x1 at *;generalize b 2 = x2 at *;generalize b 3 = x3 at *
  unfold decodeN
  rw [if_neg (by omega),if_neg (by omega),if_pos (by omega)]
  split <;> split <;> first | with_reducible rfl | (exfalso;omega) | (apply Prod.ext <;> simp only <;> omega)
 ·have q1:=h 1 (by omega) (by omega)
  have q2:=h 2 (by omega) (by omega)
  have q3:=h 3 (by omega) (by omega)
  rw [show 4 - 1 = 3 from rfl,val_3]
  clear h
  generalize b 0 = x0 at *;generalize b 1 = x1 at *;generalize b 2 = x2 at *;generalize b 3 = x3 at *
  unfold decodeN
  rw [if_neg (by omega),if_neg (by omega),if_neg (by omega),if_pos (by omega)]
  split <;> split <;> first | with_reducible rfl | (exfalso;omega) | (apply Prod.ext <;> simp only <;> omega)
theorem val_small (hc:Cls k least base (b 0)) (j:Nat) (h:∀ i,1 ≤ i → i < j + 1 → 128 ≤ b i ∧ b i < 192) (hj:j < k):val b (b 0 - base) j < 2097152 ∧ (j + 1 < k → val b (b 0 - base) j < 32768) ∧ val b (b 0 - base) j < 8388608:=by
 have hj3:j = 0 ∨ j = 1 ∨ j = 2 ∨ j = 3:=by unfold Cls at hc;omega
 unfold Cls at hc
 rcases hj3 with rfl | rfl | rfl | rfl
 ·show b 0 - base < _ ∧ (_ → b 0 - base < _) ∧ b 0 - base < _;omega
 ·have q1:=h 1 (by omega) (by omega)
  rw [val_1];omega
 ·have q1:=h 1 (by omega) (by omega)
  have q2:=h 2 (by omega) (by omega)
  rw [val_2];omega
 ·have q1:=h 1 (by omega) (by omega)
  have q2:=h 2 (by omega) (by omega)
  have q3:=h 3 (by omega) (by omega)
  rw [val_3];omega
end
/-- the bytes of a text, by place -/
def byt (t:ByteArray) (j:Nat):Nat:=(t.get! j).toNat
theorem byt_lt (t:ByteArray) (j:Nat):byt t j < 256:=(t.get! j).toNat_lt
theorem sgn_byt (t:ByteArray):Utf8.decode t 0 = Lib.decodeN t.size (byt t 0) (byt t 1) (byt t 2) (byt t 3):=by
 rw [Lib.decode_at];simp [byt]
end


set_option maxHeartbeats 400000 in
theorem hasPrefix1 (w:World) (a b:ByteArray):Calls Tryz.prog 236 #[.string a,.string b] w fun e w' => e = .returned (.bool (hasPre a b)) ∧ w = w':=by
 by_cases h:b.size ≤ a.size
 ·have t1:decide ((b.size:Int) ≤ (a.size:Int)) = true:=decide_eq_true (by exact_mod_cast h)
  have hp:hasPre a b = ((a.extract 0 b.size).toList == b.toList):=by unfold hasPre;rw [decide_eq_true h,Bool.true_and]
  rw [hp]
  go_enter Tryz.func236,Tryz.ntmps236
  go_wp2_with fail
  go_ret
  exact ⟨rfl,rfl⟩
 ·have t1:decide ((b.size:Int) ≤ (a.size:Int)) = false:=decide_eq_false (by exact_mod_cast h)
  have hp:hasPre a b = false:=by unfold hasPre;rw [decide_eq_false h,Bool.false_and]
  rw [hp]
  go_enter Tryz.func236,Tryz.ntmps236
  go_wp2_with fail
  go_ret
  exact ⟨rfl,rfl⟩
theorem hasPrefix (w:World) (a b:ByteArray):Calls Tryz.prog 199 #[.string a,.string b] w fun e w' => e = .returned (.bool (hasPre a b)) ∧ w = w':=by
 go_enter Tryz.func199,Tryz.ntmps199
 go_wp2_with fail
 refine (hasPrefix1 w a b).mono ?_
 rintro e w' ⟨rfl,rfl⟩
 go_wp2_with fail
 go_ret
 exact ⟨rfl,rfl⟩

set_option maxHeartbeats 1000000 in
theorem clean (w:World) (s:ByteArray):Calls Tryz.prog 151 #[.string s] w fun e w' => e = .returned (.bool (isClean s)) ∧ ∃ pos,w' = w.iter s pos:=by
 go_enter Tryz.func151,Tryz.ntmps151
 go_wp2_with fail
 go_loopw [3,4] (fun _ _ w' => ∃ (pos b:Nat),w' = w.iter s pos ∧ Hid (allFrom s (cleanAt s) b pos = isClean s) ∧ s.size ≤ pos + b) (fun _ _ w' => s.size - w'.iterPos w.heap.size)
 case atStart => exact ⟨0,s.size,rfl,hide rfl,by omega⟩
 case round =>
  obtain ⟨pos,b,rfl,hc,hb⟩:=hrel
  by_cases hp:pos < s.size
  ·have hnx:∀ ty,(Instr.next (.pointer (some ⟨w.heap.size,0,none⟩)) true ty).run Tryz.prog (w.iter s pos) = .ok (.tuple #[.bool true,.int .i64 pos,.int .i32 (sgn s pos:Int)]) (w.iter s (pos + wid s pos)):=fun ty => run_next_any w s pos ty hp
   have hcl:=clean_pre s pos hp
   have hple:pos ≤ s.size:=Nat.le_of_lt hp
   have hc':=hc.out
   have hwp:=wid_pos s pos hp
   cases hq:cleanAt s pos with
   | true =>
     rw [hq,Bool.not_true] at hcl
     obtain ⟨b',h1,h2⟩:=allFrom_yes s _ b pos hp hb hq
     rw [h1] at hc'
     have HC:=hide hc'
     have HM:=hide (show s.size - (pos + wid s pos) < s.size - pos by omega)
     clear h1 hc' hc hq hwp hb
     by_cases h65:sgn s pos = 65533
     ·have t1:((sgn s pos:Int) == 65533) = true:=by rw [h65];rfl
      rw [decide_eq_true h65,Bool.true_and] at hcl
      have H65:=hide h65
      clear h65
      go_wp2_with (refine (hasPrefix _ _ _).mono ?_;rintro e w' ⟨rfl,rfl⟩)
      go_roundw
      case rel => exact ⟨_,b',rfl,HC,h2⟩
      case measure => simpa using HM.out
     ·have t1:((sgn s pos:Int) == 65533) = false:=by rw [beq_eq_false_iff_ne];exact fun h => h65 (by omega)
      clear hcl
      have H65:=hide h65
      clear h65
      go_wp2_with fail
      go_roundw
      case rel => exact ⟨_,b',rfl,HC,h2⟩
      case measure => simpa using HM.out
   | false =>
     rw [hq,Bool.not_false] at hcl
     rw [allFrom_no s _ b pos hp hb hq] at hc'
     have HC:=hide hc'
     clear hc' hc hq hwp hb
     rw [Bool.and_eq_true] at hcl
     obtain ⟨h65,hpre⟩:=hcl
     have t1:((sgn s pos:Int) == 65533) = true:=by rw [of_decide_eq_true h65];rfl
     have H65:=hide h65
     clear h65
     go_wp2_with (refine (hasPrefix _ _ _).mono ?_;rintro e w' ⟨rfl,rfl⟩)
     go_ret
     exact ⟨by rw [← HC.out];rfl,_,rfl⟩
  ·have hnx:∀ ty,(Instr.next (.pointer (some ⟨w.heap.size,0,none⟩)) true ty).run Tryz.prog (w.iter s pos) = _:=fun ty => run_next_end w s pos ty hp
   have he:=hc.out
   rw [allFrom_end s _ b pos hp] at he
   have HE:=hide he
   clear he
   go_wp2_with fail
   go_ret
   exact ⟨by rw [← HE.out];rfl,_,rfl⟩
theorem fairAt_eq (s:ByteArray) (p c:Nat) (h:sgn s p = c):fairAt s p = decide (97 ≤ c ∧ c ≤ 122 ∨ c = 95 ∨ 127 < c ∨ 48 ≤ c ∧ c ≤ 57 ∧ 0 < p):=by subst h;rfl
set_option maxHeartbeats 1000000 in
theorem schNamed (w:World) (s:ByteArray):Calls Tryz.prog 80 #[.string s] w fun e w' => e = .returned (.bool (named s)) ∧ Below w.heap.size w w':=by
 by_cases h1:s.size < 1
 ·have hn:named s = false:=by unfold named;rw [decide_eq_false (by omega)];rfl
  rw [hn]
  have t1:decide ((s.size:Int) < 1) = true:=decide_eq_true (by omega)
  clear h1
  go_enter Tryz.func80,Tryz.ntmps80
  go_wp2_with fail
  go_ret
  exact ⟨rfl,Below.refl _ _⟩
 ·have t1:decide ((s.size:Int) < 1) = false:=decide_eq_false (by omega)
  by_cases h2:16 < s.size
  ·have hn:named s = false:=by unfold named;rw [decide_eq_false (show ¬ s.size ≤ 16 by omega)];simp
   rw [hn]
   have t2:decide ((16:Int) < (s.size:Int)) = true:=decide_eq_true (by omega)
   clear h1 h2
   go_enter Tryz.func80,Tryz.ntmps80
   go_wp2_with fail
   go_ret
   exact ⟨rfl,Below.refl _ _⟩
  ·have t2:decide ((16:Int) < (s.size:Int)) = false:=decide_eq_false (by omega)
   have hn:named s = (isClean s && isFair s):=by unfold named;rw [decide_eq_true (show 1 ≤ s.size by omega),decide_eq_true (show s.size ≤ 16 by omega)];rfl
   rw [hn]
   have hsz:s.size ≤ 16:=by omega
   clear h1 h2 hn
   cases hcl:isClean s with
   | false =>
     go_enter Tryz.func80,Tryz.ntmps80
     go_wp2_with (refine (clean _ _).mono ?_;rintro e w' ⟨rfl,pos,rfl⟩;rw [hcl])
     go_ret
     exact ⟨rfl,(Below.refl _ _).alloc (Nat.le_refl _) _⟩
   | true =>
     go_enter Tryz.func80,Tryz.ntmps80
     go_wp2_with (refine (clean _ _).mono ?_;rintro e w' ⟨rfl,pos,rfl⟩;rw [hcl])
     obtain ⟨w1,hw1⟩:∃ w1,w1 = w.iter s pos:=⟨_,rfl⟩
     have hb1:Below w.heap.size w w1:=by rw [hw1];exact (Below.refl _ _).alloc (Nat.le_refl _) _
     rw [← hw1]
     clear hw1
     go_wp2_with fail
     go_loopw [3,4,24,35] (fun _ _ _ _ w' => ∃ (pos b:Nat),w' = w1.iter s pos ∧ Hid (allFrom s (fairAt s) b pos = isFair s) ∧ s.size ≤ pos + b) (fun _ _ _ _ w' => s.size - w'.iterPos w1.heap.size)
     case atStart => exact ⟨0,s.size,rfl,hide rfl,by omega⟩
     case round =>
      obtain ⟨pos,b,rfl,hc,hb⟩:=hrel
      by_cases hp:pos < s.size
      ·have hnx:∀ ty,(Instr.next (.pointer (some ⟨w1.heap.size,0,none⟩)) true ty).run Tryz.prog (w1.iter s pos) = .ok (.tuple #[.bool true,.int .i64 pos,.int .i32 (sgn s pos:Int)]) (w1.iter s (pos + wid s pos)):=fun ty => run_next_any w1 s pos ty hp
       have hwp:=wid_pos s pos hp
       have HM:=hide (show s.size - (pos + wid s pos) < s.size - pos by omega)
       have HP:=hide hp
       have HB:=hide hb
       clear hb
       generalize hcc:sgn s pos = c at *
       have HCC:=hide hcc
       clear hcc hwp hp
       go_wp2_with fail
       all_goals first
        | (go_roundw
           case rel =>
            have hq:fairAt s pos = true:=by
             rw [fairAt_eq s pos c HCC.out]
             apply decide_eq_true
             try simp only [beq_iff_eq,beq_eq_false_iff_ne] at *
             omega
            obtain ⟨b',h1,h2⟩:=allFrom_yes s _ b pos HP.out HB.out hq
            exact ⟨_,b',rfl,hide (h1 ▸ hc.out),h2⟩
           case measure => simpa using HM.out)
        | (go_ret
           have hq:fairAt s pos = false:=by
            rw [fairAt_eq s pos c HCC.out]
            apply decide_eq_false
            try simp only [beq_eq_false_iff_ne] at *
            omega
           have he:=hc.out
           rw [allFrom_no s _ b pos HP.out HB.out hq] at he
           exact ⟨by rw [← he];rfl,hb1.alloc hb1.size _⟩)
      ·have hnx:∀ ty,(Instr.next (.pointer (some ⟨w1.heap.size,0,none⟩)) true ty).run Tryz.prog (w1.iter s pos) = _:=fun ty => run_next_end w1 s pos ty hp
       have he:=hc.out
       rw [allFrom_end s _ b pos hp] at he
       have HE:=hide he
       clear he
       go_wp2_with fail
       go_ret
       exact ⟨by rw [← HE.out];rfl,hb1.alloc hb1.size _⟩


theorem tup_eq (t:ByteArray) (v k:Nat) (c:Bool) (h:Utf8.decode t 0 = (v,k)) (hc:c = !(decide (v = 65533) && decide (k = 1))) :
 (Value.tuple #[.int .i64 (sgn t 0:Int),.int .i64 (wid t 0:Int),.bool (cleanAt t 0)]) = .tuple #[.int .i64 (v:Int),.int .i64 (k:Int),.bool c]:=by
 unfold cleanAt sgn wid
 rw [h,hc]
theorem val_succ (b:Nat → Nat) (n0 j:Nat):val b n0 (j + 1) = val b n0 j * 64 + b (j + 1) - 128:=rfl
theorem get_byt (t:ByteArray) (j:Nat):((t.get! j).toNat:Int) = (byt t j:Int):=rfl
theorem go_get (t:ByteArray):∀ k (h:k < t.size),t[k]'h = t.get! k:=fun k h => (by cases t with | mk d => exact (getElem!_pos d k h).symm)
def SignEnd (t:ByteArray) (e:Ending):Prop:=e = .returned (.tuple #[.int .i64 (sgn t 0:Int),.int .i64 (wid t 0:Int),.bool (cleanAt t 0)])
theorem SignEnd.of (t:ByteArray) (v k:Nat) (c:Bool) (h:Utf8.decode t 0 = (v,k)) (hc:c = !(decide (v = 65533) && decide (k = 1))):SignEnd t (.returned (.tuple #[.int .i64 (v:Int),.int .i64 (k:Int),.bool c])):=by
 unfold SignEnd;rw [tup_eq t v k c h hc]
theorem SignEnd.bad (t:ByteArray) (h:Utf8.decode t 0 = (65533,1)):SignEnd t (.returned (.tuple #[.int .i64 65533,.int .i64 1,.bool false])):=SignEnd.of t 65533 1 false h rfl
theorem meas_sub (i k:Nat) (h:i < k):k - (intOf (.int .i64 ((i:Int) + 1))).toNat < k - (intOf (.int .i64 (i:Int))).toNat:=by simp [intOf];omega

set_option maxHeartbeats 1000000 in
theorem sign2 (w:World) (t:ByteArray) (b0:Nat) (hb0:b0 = byt t 0) (hc:194 ≤ b0 ∧ b0 < 224) (ht:0 < t.size) (hmax:t.size < 9223372036854775807) :
 Calls Tryz.prog 185 #[.string t] w fun e w' => SignEnd t e ∧ w = w':=by
 have hget:=go_get t
 have hgb:=get_byt t
 have hlt:=byt_lt t 0
 have HB0:=hide hb0
 have hb0':(byt t 0:Int) = (b0:Int):=by rw [← hb0]
 have s0:decide ((b0:Int) < 128) = false:=decide_eq_false (by omega)
 have s1:decide ((194:Int) ≤ (b0:Int)) = true:=decide_eq_true (by omega)
 have s2:decide ((b0:Int) < 224) = true:=decide_eq_true (by omega)
 have HC:=hide (show Cls 2 128 192 (byt t 0) by rw [← hb0];unfold Cls;omega)
 have hbl:b0 < 256:=by rw [hb0];exact hlt
 clear hb0 hlt
 by_cases hn:t.size < 2
 ·have sn:decide ((t.size:Int) < 2) = true:=decide_eq_true (by omega)
  have HN:=hide hn
  clear hn
  go_enter Tryz.func185,Tryz.ntmps185
  go_wp2_with fail
  go_ret3
  exact ⟨SignEnd.bad t (by rw [sgn_byt];exact cls_short (b:=byt t) HC.out HN.out),rfl⟩
 ·have sn:decide ((t.size:Int) < 2) = false:=decide_eq_false (by omega)
  have hkn:2 ≤ t.size:=by omega
  clear hn
  go_enter Tryz.func185,Tryz.ntmps185
  go_wp2_with fail
  go_loopw [8,9] (fun nv iv wr => ∃ (j v:Nat),j < 2 ∧ iv = .int .i64 ((j + 1:Nat):Int) ∧ nv = .int .i64 (v:Int) ∧ Hid (v = val (byt t) (byt t 0 - 192) j) ∧ Hid (∀ i,1 ≤ i → i < j + 1 → 128 ≤ byt t i ∧ byt t i < 192) ∧ w = wr) (fun _ iv _ => 2 - (intOf iv).toNat)
  case atStart => exact ⟨0,b0 - 192,by omega,rfl,by go_num,hide (by rw [HB0.out];rfl),hide (fun i h1 h2 => by omega),rfl⟩
  case round =>
   obtain ⟨j,v,hj,rfl,rfl,hv,hcont,rfl⟩:=hrel
   clear s0 s1 s2 sn hb0' hc hbl
   have hvs:=val_small HC.out j hcont.out hj
   rw [← hv.out] at hvs
   obtain ⟨hv1,hv2,hv3⟩:=hvs
   obtain ⟨i,hi⟩:∃ i,i = j + 1:=⟨_,rfl⟩
   rw [← hi] at hcont hv2 ⊢
   by_cases hik:i < 2
   ·have hv2:=hv2 hik
    have si:decide ((i:Int) < 2) = true:=decide_eq_true (by omega)
    have hin:i < t.size:=by omega
    obtain ⟨x,hx⟩:∃ x,x = byt t i:=⟨_,rfl⟩
    have hxb:x < 256:=by rw [hx];exact byt_lt t i
    have hx':((byt t i:Nat):Int) = (x:Int):=by rw [hx]
    have HX:=hide hx
    have HI:=hide hi
    have HIK:=hide hik
    clear hi hx hik hj
    by_cases hx1:x < 128
    ·have sx1:decide ((x:Int) < 128) = true:=decide_eq_true (by omega)
     have HX1:=hide hx1
     clear hx1
     go_wp2_with fail
     go_ret3
     exact ⟨SignEnd.bad t (by rw [sgn_byt];exact cls_cut (b:=byt t) HC.out i (by rw [HI.out];omega) HIK.out (byt_lt t i) (.inl (by rw [← HX.out];exact HX1.out))),rfl⟩
    ·have sx1:decide ((x:Int) < 128) = false:=decide_eq_false (by omega)
     by_cases hx2:192 ≤ x
     ·have sx2:decide ((192:Int) ≤ (x:Int)) = true:=decide_eq_true (by omega)
      have HX2:=hide hx2
      clear hx1 hx2
      go_wp2_with fail
      go_ret3
      exact ⟨SignEnd.bad t (by rw [sgn_byt];exact cls_cut (b:=byt t) HC.out i (by rw [HI.out];omega) HIK.out (byt_lt t i) (.inr (by rw [← HX.out];exact HX2.out))),rfl⟩
     ·have sx2:decide ((192:Int) ≤ (x:Int)) = false:=decide_eq_false (by omega)
      have HX3:=hide (show 128 ≤ x ∧ x < 192 by omega)
      go_wp2_with fail
      go_roundw
      case rel =>
       refine ⟨i,v * 64 + x - 128,HIK.out,by go_num,congrArg _ (by have:=HX3.out;omega),hide ?_,hide ?_,trivial⟩
       ·have e:=val_succ (byt t) (byt t 0 - 192) j
        rw [← HI.out,← hv.out,← HX.out] at e
        exact e.symm
       ·intro y h1 h2
        by_cases hy:y = i
        ·rw [hy,← HX.out];exact HX3.out
        ·exact hcont.out y h1 (by omega)
      case measure => exact meas_sub i 2 HIK.out
   ·have si:decide ((i:Int) < 2) = false:=decide_eq_false (by omega)
    have hik':i = 2:=by omega
    have hd:Utf8.decode t 0 = if v < 128 ∨ 1114111 < v ∨ 55296 ≤ v ∧ v < 57344 then (65533,1) else (v,2):=by
     rw [sgn_byt,cls_all (b:=byt t) HC.out hkn (fun y h1 h2 => hcont.out y h1 (by omega)),hv.out,show j = 2 - 1 by omega]
    have HD:=hide hd
    clear hd hik hi hv2 hj hik'
    by_cases hbad:v < 128 ∨ 1114111 < v ∨ 55296 ≤ v ∧ v < 57344
    ·have HE:=hide (show Utf8.decode t 0 = (65533,1) by rw [HD.out,if_pos hbad])
     clear HD
     go_wp2_with fail
     all_goals first
      | (go_ret3;exact ⟨SignEnd.bad t HE.out,rfl⟩)
      | (exfalso;omega)
    ·have HE:=hide (show Utf8.decode t 0 = (v,2) by rw [HD.out,if_neg hbad])
     clear HD
     go_wp2_with fail
     all_goals first
      | (go_ret3;exact ⟨SignEnd.of t v 2 true HE.out (by simp),rfl⟩)
      | (exfalso;omega)

set_option maxHeartbeats 1000000 in
theorem sign3 (w:World) (t:ByteArray) (b0:Nat) (hb0:b0 = byt t 0) (hc:224 ≤ b0 ∧ b0 < 240) (ht:0 < t.size) (hmax:t.size < 9223372036854775807) :
 Calls Tryz.prog 185 #[.string t] w fun e w' => SignEnd t e ∧ w = w':=by
 have hget:=go_get t
 have hgb:=get_byt t
 have hlt:=byt_lt t 0
 have HB0:=hide hb0
 have hb0':(byt t 0:Int) = (b0:Int):=by rw [← hb0]
 have s0:decide ((b0:Int) < 128) = false:=decide_eq_false (by omega)
 have s1:decide ((194:Int) ≤ (b0:Int)) = true:=decide_eq_true (by omega)
 have s2:decide ((b0:Int) < 224) = false:=decide_eq_false (by omega)
 have s3:decide ((224:Int) ≤ (b0:Int)) = true:=decide_eq_true (by omega)
 have s4:decide ((b0:Int) < 240) = true:=decide_eq_true (by omega)
 have HC:=hide (show Cls 3 2048 224 (byt t 0) by rw [← hb0];unfold Cls;omega)
 have hbl:b0 < 256:=by rw [hb0];exact hlt
 clear hb0 hlt
 by_cases hn:t.size < 3
 ·have sn:decide ((t.size:Int) < 3) = true:=decide_eq_true (by omega)
  have HN:=hide hn
  clear hn
  go_enter Tryz.func185,Tryz.ntmps185
  go_wp2_with fail
  go_ret3
  exact ⟨SignEnd.bad t (by rw [sgn_byt];exact cls_short (b:=byt t) HC.out HN.out),rfl⟩
 ·have sn:decide ((t.size:Int) < 3) = false:=decide_eq_false (by omega)
  have hkn:3 ≤ t.size:=by omega
  clear hn
  go_enter Tryz.func185,Tryz.ntmps185
  go_wp2_with fail
  go_loopw [8,9] (fun nv iv wr => ∃ (j v:Nat),j < 3 ∧ iv = .int .i64 ((j + 1:Nat):Int) ∧ nv = .int .i64 (v:Int) ∧ Hid (v = val (byt t) (byt t 0 - 224) j) ∧ Hid (∀ i,1 ≤ i → i < j + 1 → 128 ≤ byt t i ∧ byt t i < 192) ∧ w = wr) (fun _ iv _ => 3 - (intOf iv).toNat)
  case atStart => exact ⟨0,b0 - 224,by omega,rfl,by go_num,hide (by rw [HB0.out];rfl),hide (fun i h1 h2 => by omega),rfl⟩
  case round =>
   obtain ⟨j,v,hj,rfl,rfl,hv,hcont,rfl⟩:=hrel
   clear s0 s1 s2 s3 s4 sn hb0' hc hbl
   have hvs:=val_small HC.out j hcont.out hj
   rw [← hv.out] at hvs
   obtain ⟨hv1,hv2,hv3⟩:=hvs
   obtain ⟨i,hi⟩:∃ i,i = j + 1:=⟨_,rfl⟩
   rw [← hi] at hcont hv2 ⊢
   by_cases hik:i < 3
   ·have hv2:=hv2 hik
    have si:decide ((i:Int) < 3) = true:=decide_eq_true (by omega)
    have hin:i < t.size:=by omega
    obtain ⟨x,hx⟩:∃ x,x = byt t i:=⟨_,rfl⟩
    have hxb:x < 256:=by rw [hx];exact byt_lt t i
    have hx':((byt t i:Nat):Int) = (x:Int):=by rw [hx]
    have HX:=hide hx
    have HI:=hide hi
    have HIK:=hide hik
    clear hi hx hik hj
    by_cases hx1:x < 128
    ·have sx1:decide ((x:Int) < 128) = true:=decide_eq_true (by omega)
     have HX1:=hide hx1
     clear hx1
     go_wp2_with fail
     go_ret3
     exact ⟨SignEnd.bad t (by rw [sgn_byt];exact cls_cut (b:=byt t) HC.out i (by rw [HI.out];omega) HIK.out (byt_lt t i) (.inl (by rw [← HX.out];exact HX1.out))),rfl⟩
    ·have sx1:decide ((x:Int) < 128) = false:=decide_eq_false (by omega)
     by_cases hx2:192 ≤ x
     ·have sx2:decide ((192:Int) ≤ (x:Int)) = true:=decide_eq_true (by omega)
      have HX2:=hide hx2
      clear hx1 hx2
      go_wp2_with fail
      go_ret3
      exact ⟨SignEnd.bad t (by rw [sgn_byt];exact cls_cut (b:=byt t) HC.out i (by rw [HI.out];omega) HIK.out (byt_lt t i) (.inr (by rw [← HX.out];exact HX2.out))),rfl⟩
     ·have sx2:decide ((192:Int) ≤ (x:Int)) = false:=decide_eq_false (by omega)
      have HX3:=hide (show 128 ≤ x ∧ x < 192 by omega)
      go_wp2_with fail
      go_roundw
      case rel =>
       refine ⟨i,v * 64 + x - 128,HIK.out,by go_num,congrArg _ (by have:=HX3.out;omega),hide ?_,hide ?_,trivial⟩
       ·have e:=val_succ (byt t) (byt t 0 - 224) j
        rw [← HI.out,← hv.out,← HX.out] at e
        exact e.symm
       ·intro y h1 h2
        by_cases hy:y = i
        ·rw [hy,← HX.out];exact HX3.out
        ·exact hcont.out y h1 (by omega)
      case measure => exact meas_sub i 3 HIK.out
   ·have si:decide ((i:Int) < 3) = false:=decide_eq_false (by omega)
    have hik':i = 3:=by omega
    have hd:Utf8.decode t 0 = if v < 2048 ∨ 1114111 < v ∨ 55296 ≤ v ∧ v < 57344 then (65533,1) else (v,3):=by
     rw [sgn_byt,cls_all (b:=byt t) HC.out hkn (fun y h1 h2 => hcont.out y h1 (by omega)),hv.out,show j = 3 - 1 by omega]
    have HD:=hide hd
    clear hd hik hi hv2 hj hik'
    by_cases hbad:v < 2048 ∨ 1114111 < v ∨ 55296 ≤ v ∧ v < 57344
    ·have HE:=hide (show Utf8.decode t 0 = (65533,1) by rw [HD.out,if_pos hbad])
     clear HD
     go_wp2_with fail
     all_goals first
      | (go_ret3;exact ⟨SignEnd.bad t HE.out,rfl⟩)
      | (exfalso;omega)
    ·have HE:=hide (show Utf8.decode t 0 = (v,3) by rw [HD.out,if_neg hbad])
     clear HD
     go_wp2_with fail
     all_goals first
      | (go_ret3;exact ⟨SignEnd.of t v 3 true HE.out (by simp),rfl⟩)
      | (exfalso;omega)

set_option maxHeartbeats 1000000 in
theorem sign4 (w:World) (t:ByteArray) (b0:Nat) (hb0:b0 = byt t 0) (hc:240 ≤ b0 ∧ b0 < 245) (ht:0 < t.size) (hmax:t.size < 9223372036854775807) :
 Calls Tryz.prog 185 #[.string t] w fun e w' => SignEnd t e ∧ w = w':=by
 have hget:=go_get t
 have hgb:=get_byt t
 have hlt:=byt_lt t 0
 have HB0:=hide hb0
 have hb0':(byt t 0:Int) = (b0:Int):=by rw [← hb0]
 have s0:decide ((b0:Int) < 128) = false:=decide_eq_false (by omega)
 have s1:decide ((194:Int) ≤ (b0:Int)) = true:=decide_eq_true (by omega)
 have s2:decide ((b0:Int) < 224) = false:=decide_eq_false (by omega)
 have s3:decide ((224:Int) ≤ (b0:Int)) = true:=decide_eq_true (by omega)
 have s4:decide ((b0:Int) < 240) = false:=decide_eq_false (by omega)
 have s5:decide ((240:Int) ≤ (b0:Int)) = true:=decide_eq_true (by omega)
 have s6:decide ((b0:Int) < 245) = true:=decide_eq_true (by omega)
 have HC:=hide (show Cls 4 65536 240 (byt t 0) by rw [← hb0];unfold Cls;omega)
 have hbl:b0 < 256:=by rw [hb0];exact hlt
 clear hb0 hlt
 by_cases hn:t.size < 4
 ·have sn:decide ((t.size:Int) < 4) = true:=decide_eq_true (by omega)
  have HN:=hide hn
  clear hn
  go_enter Tryz.func185,Tryz.ntmps185
  go_wp2_with fail
  go_ret3
  exact ⟨SignEnd.bad t (by rw [sgn_byt];exact cls_short (b:=byt t) HC.out HN.out),rfl⟩
 ·have sn:decide ((t.size:Int) < 4) = false:=decide_eq_false (by omega)
  have hkn:4 ≤ t.size:=by omega
  clear hn
  go_enter Tryz.func185,Tryz.ntmps185
  go_wp2_with fail
  go_loopw [8,9] (fun nv iv wr => ∃ (j v:Nat),j < 4 ∧ iv = .int .i64 ((j + 1:Nat):Int) ∧ nv = .int .i64 (v:Int) ∧ Hid (v = val (byt t) (byt t 0 - 240) j) ∧ Hid (∀ i,1 ≤ i → i < j + 1 → 128 ≤ byt t i ∧ byt t i < 192) ∧ w = wr) (fun _ iv _ => 4 - (intOf iv).toNat)
  case atStart => exact ⟨0,b0 - 240,by omega,rfl,by go_num,hide (by rw [HB0.out];rfl),hide (fun i h1 h2 => by omega),rfl⟩
  case round =>
   obtain ⟨j,v,hj,rfl,rfl,hv,hcont,rfl⟩:=hrel
   clear s0 s1 s2 s3 s4 s5 s6 sn hb0' hc hbl
   have hvs:=val_small HC.out j hcont.out hj
   rw [← hv.out] at hvs
   obtain ⟨hv1,hv2,hv3⟩:=hvs
   obtain ⟨i,hi⟩:∃ i,i = j + 1:=⟨_,rfl⟩
   rw [← hi] at hcont hv2 ⊢
   by_cases hik:i < 4
   ·have hv2:=hv2 hik
    have si:decide ((i:Int) < 4) = true:=decide_eq_true (by omega)
    have hin:i < t.size:=by omega
    obtain ⟨x,hx⟩:∃ x,x = byt t i:=⟨_,rfl⟩
    have hxb:x < 256:=by rw [hx];exact byt_lt t i
    have hx':((byt t i:Nat):Int) = (x:Int):=by rw [hx]
    have HX:=hide hx
    have HI:=hide hi
    have HIK:=hide hik
    clear hi hx hik hj
    by_cases hx1:x < 128
    ·have sx1:decide ((x:Int) < 128) = true:=decide_eq_true (by omega)
     have HX1:=hide hx1
     clear hx1
     go_wp2_with fail
     go_ret3
     exact ⟨SignEnd.bad t (by rw [sgn_byt];exact cls_cut (b:=byt t) HC.out i (by rw [HI.out];omega) HIK.out (byt_lt t i) (.inl (by rw [← HX.out];exact HX1.out))),rfl⟩
    ·have sx1:decide ((x:Int) < 128) = false:=decide_eq_false (by omega)
     by_cases hx2:192 ≤ x
     ·have sx2:decide ((192:Int) ≤ (x:Int)) = true:=decide_eq_true (by omega)
      have HX2:=hide hx2
      clear hx1 hx2
      go_wp2_with fail
      go_ret3
      exact ⟨SignEnd.bad t (by rw [sgn_byt];exact cls_cut (b:=byt t) HC.out i (by rw [HI.out];omega) HIK.out (byt_lt t i) (.inr (by rw [← HX.out];exact HX2.out))),rfl⟩
     ·have sx2:decide ((192:Int) ≤ (x:Int)) = false:=decide_eq_false (by omega)
      have HX3:=hide (show 128 ≤ x ∧ x < 192 by omega)
      go_wp2_with fail
      go_roundw
      case rel =>
       refine ⟨i,v * 64 + x - 128,HIK.out,by go_num,congrArg _ (by have:=HX3.out;omega),hide ?_,hide ?_,trivial⟩
       ·have e:=val_succ (byt t) (byt t 0 - 240) j
        rw [← HI.out,← hv.out,← HX.out] at e
        exact e.symm
       ·intro y h1 h2
        by_cases hy:y = i
        ·rw [hy,← HX.out];exact HX3.out
        ·exact hcont.out y h1 (by omega)
      case measure => exact meas_sub i 4 HIK.out
   ·have si:decide ((i:Int) < 4) = false:=decide_eq_false (by omega)
    have hik':i = 4:=by omega
    have hd:Utf8.decode t 0 = if v < 65536 ∨ 1114111 < v ∨ 55296 ≤ v ∧ v < 57344 then (65533,1) else (v,4):=by
     rw [sgn_byt,cls_all (b:=byt t) HC.out hkn (fun y h1 h2 => hcont.out y h1 (by omega)),hv.out,show j = 4 - 1 by omega]
    have HD:=hide hd
    clear hd hik hi hv2 hj hik'
    by_cases hbad:v < 65536 ∨ 1114111 < v ∨ 55296 ≤ v ∧ v < 57344
    ·have HE:=hide (show Utf8.decode t 0 = (65533,1) by rw [HD.out,if_pos hbad])
     clear HD
     go_wp2_with fail
     all_goals first
      | (go_ret3;exact ⟨SignEnd.bad t HE.out,rfl⟩)
      | (exfalso;omega)
    ·have HE:=hide (show Utf8.decode t 0 = (v,4) by rw [HD.out,if_neg hbad])
     clear HD
     go_wp2_with fail
     all_goals first
      | (go_ret3;exact ⟨SignEnd.of t v 4 true HE.out (by simp),rfl⟩)
      | (exfalso;omega)

theorem signLow (w:World) (t:ByteArray) (b0:Nat) (hb0:b0 = byt t 0) (hc:b0 < 128) (ht:0 < t.size) :
 Calls Tryz.prog 185 #[.string t] w fun e w' => SignEnd t e ∧ w = w':=by
 have hget:=go_get t
 have hgb:=get_byt t
 have hbl:b0 < 256:=by rw [hb0];exact byt_lt t 0
 have HB0:=hide hb0
 have hb0':(byt t 0:Int) = (b0:Int):=by rw [← hb0]
 have s0:decide ((b0:Int) < 128) = true:=decide_eq_true (by omega)
 have HC:=hide hc
 clear hb0 hc
 go_enter Tryz.func185,Tryz.ntmps185
 go_wp2_with fail
 go_ret3
 refine ⟨SignEnd.of t b0 1 true ?_ ?_,rfl⟩
 ·rw [sgn_byt,← HB0.out];exact decodeN_low _ _ _ _ _ HC.out
 ·have:=HC.out
  rw [decide_eq_false (show ¬ b0 = 65533 by omega)];rfl
theorem signNone (w:World) (t:ByteArray) (b0:Nat) (hb0:b0 = byt t 0) (hc:128 ≤ b0 ∧ b0 < 194 ∨ 245 ≤ b0) (ht:0 < t.size) :
 Calls Tryz.prog 185 #[.string t] w fun e w' => SignEnd t e ∧ w = w':=by
 have hget:=go_get t
 have hgb:=get_byt t
 have hbl:b0 < 256:=by rw [hb0];exact byt_lt t 0
 have HB0:=hide hb0
 have hb0':(byt t 0:Int) = (b0:Int):=by rw [← hb0]
 have s0:decide ((b0:Int) < 128) = false:=decide_eq_false (by omega)
 have hd:=hide (show Utf8.decode t 0 = (65533,1) by rw [sgn_byt];exact cls_none (b:=byt t) (byt_lt t 0) (by rw [← hb0];omega) (by rw [← hb0];omega))
 rcases hc with hc | hc
 ·have s1:decide ((194:Int) ≤ (b0:Int)) = false:=decide_eq_false (by omega)
  have s2:decide ((224:Int) ≤ (b0:Int)) = false:=decide_eq_false (by omega)
  have s3:decide ((240:Int) ≤ (b0:Int)) = false:=decide_eq_false (by omega)
  clear hb0 hc
  go_enter Tryz.func185,Tryz.ntmps185
  go_wp2_with fail
  go_ret3
  exact ⟨SignEnd.bad t hd.out,rfl⟩
 ·have s1:decide ((194:Int) ≤ (b0:Int)) = true:=decide_eq_true (by omega)
  have s2:decide ((b0:Int) < 224) = false:=decide_eq_false (by omega)
  have s3:decide ((224:Int) ≤ (b0:Int)) = true:=decide_eq_true (by omega)
  have s4:decide ((b0:Int) < 240) = false:=decide_eq_false (by omega)
  have s5:decide ((240:Int) ≤ (b0:Int)) = true:=decide_eq_true (by omega)
  have s6:decide ((b0:Int) < 245) = false:=decide_eq_false (by omega)
  clear hb0 hc
  go_enter Tryz.func185,Tryz.ntmps185
  go_wp2_with fail
  go_ret3
  exact ⟨SignEnd.bad t hd.out,rfl⟩
theorem sign (w:World) (t:ByteArray) (ht:0 < t.size) (hmax:t.size < 9223372036854775807) :
 Calls Tryz.prog 185 #[.string t] w fun e w' => SignEnd t e ∧ w = w':=by
 have h:byt t 0 < 128 ∨ (128 ≤ byt t 0 ∧ byt t 0 < 194 ∨ 245 ≤ byt t 0) ∨ (194 ≤ byt t 0 ∧ byt t 0 < 224) ∨ (224 ≤ byt t 0 ∧ byt t 0 < 240) ∨ (240 ≤ byt t 0 ∧ byt t 0 < 245):=by omega
 rcases h with h | h | h | h | h
 ·exact signLow w t _ rfl h ht
 ·exact signNone w t _ rfl h ht
 ·exact sign2 w t _ rfl h ht hmax
 ·exact sign3 w t _ rfl h ht hmax
 ·exact sign4 w t _ rfl h ht hmax


/-! ### two rows of the call's own lie apart -/

section
open Go.RowKit

structure Fd where
 id:UInt32
 name:ByteArray
 kind:UInt8
 need:Bool
instance:Inhabited Fd:=⟨⟨0,ByteArray.empty,0,false⟩⟩
/-- a field's cells -/
def fdV (f:Fd):List Value:=[.int .u32 (f.id.toNat:Int),.string f.name,.int .u8 (f.kind.toNat:Int),.bool f.need]
def fdsV (l:List Fd):List Value:=l.flatMap fdV
theorem fdV_length (f:Fd):(fdV f).length = 4:=rfl
theorem fdsV_cons (f:Fd) (l:List Fd):fdsV (f :: l) = fdV f ++ fdsV l:=rfl
theorem fdsV_append (a b:List Fd):fdsV (a ++ b) = fdsV a ++ fdsV b:=by simp [fdsV]
theorem fdsV_length (l:List Fd):(fdsV l).length = l.length * 4:=by
 induction l with
 | nil => rfl
 | cons f l ih => rw [fdsV_cons,List.length_append,ih,fdV_length,List.length_cons];omega
theorem fdsV_get (l:List Fd) (k j:Nat) (hk:k < l.length) (hj:j < 4):(fdsV l)[k * 4 + j]? = (fdV l[k])[j]?:=by
 induction l generalizing k with
 | nil => simp at hk
 | cons f l ih =>
   rw [fdsV_cons]
   cases k with
   | zero => rw [List.getElem?_append_left (by rw [fdV_length];omega)];simp
   | succ k =>
     rw [List.getElem?_append_right (by rw [fdV_length];omega),fdV_length,show (k + 1) * 4 + j - 4 = k * 4 + j by omega]
     rw [ih k (by simpa using hk)]
     simp
theorem fdsV_one (l:List Fd):∀ u ∈ fdsV l,u.oneCell' = true:=by
 intro u hu
 obtain ⟨f,_,hf⟩:=List.mem_flatMap.1 hu
 simp only [fdV,List.mem_cons,List.not_mem_nil,or_false] at hf
 rcases hf with rfl | rfl | rfl | rfl <;> rfl

/-- has one of them this name? -/
def hasName (l:List Fd) (s:ByteArray):Bool:=l.any fun f => f.name.toList == s.toList
/-- the Id ahead of field i (0: none) -/
def wasId (l:List Fd) (i:Nat):Nat:=if i = 0 then 0 else (l.getD (i - 1) default).id.toNat
/-- the error of field i (0: none) -/
def errAt (l:List Fd) (i:Nat):Nat :=
 let f:=l.getD i default
 if f.id.toNat ≤ wasId l i then 81
 else if (!named f.name || hasName (l.take i) f.name) = true then 80
 else if (decide (f.kind.toNat < 1) || decide (3 < f.kind.toNat)) = true then 10
 else if ((f.need != decide (i = 0)) || (decide (i = 0) && decide (f.kind.toNat = 2))) = true then 82
 else 0
/-- the first one's -/
def errFrom (l:List Fd):Nat → Nat → Nat
 | 0,_ => 0
 | b + 1,i => if errAt l i = 0 then errFrom l b (i + 1) else errAt l i
theorem errFrom_no (l:List Fd) (b i:Nat) (h:errAt l i = 0):errFrom l (b + 1) i = errFrom l b (i + 1):=by simp [errFrom,h]
theorem errFrom_yes (l:List Fd) (b i:Nat) (h:errAt l i ≠ 0):errFrom l (b + 1) i = errAt l i:=by simp [errFrom,h]
/-- which schemas may be -/
def check (id:UInt32) (l:List Fd):Nat:=if id.toNat < 1 ∨ l.length < 1 ∨ 8 < l.length then 1 else errFrom l l.length 0
/-- a row of fields: field k's four cells -/
theorem Rd.fd {w:World} {B n c:Nat} {A:Option Addr} {l:List Fd} (h:Rd w B 4 A n c (fdsV l)) {k:Nat} (hk:k < l.length) :
 ∃ b off,A = some ⟨b,off,none⟩ ∧ b < B ∧ w.cell? ⟨b,off + k * 4,none⟩ = some (.int .u32 ((l.getD k default).id.toNat:Int)) ∧ w.cell? ⟨b,off + k * 4 + 1,none⟩ = some (.string (l.getD k default).name) ∧
  w.cell? ⟨b,off + k * 4 + 2,none⟩ = some (.int .u8 ((l.getD k default).kind.toNat:Int)) ∧ w.cell? ⟨b,off + k * 4 + 3,none⟩ = some (.bool (l.getD k default).need):=by
 have hn:0 < n:=by
  have:=h.len
  rw [fdsV_length] at this
  omega
 obtain ⟨b,off,e,hb,hc⟩:=h.at_ hn
 have hd:l.getD k default = l[k]:=by simp [List.getD,hk]
 have g:∀ j,j < 4 → (fdsV l)[k * 4 + j]? = (fdV (l.getD k default))[j]?:=fun j hj => by rw [hd];exact fdsV_get l k j hk hj
 exact ⟨b,off,e,hb,hc (k * 4 + 0) _ (g 0 (by omega)),hc (k * 4 + 1) _ (g 1 (by omega)),hc (k * 4 + 2) _ (g 2 (by omega)),hc (k * 4 + 3) _ (g 3 (by omega))⟩
theorem Rd.lenF {w:World} {B n c:Nat} {A:Option Addr} {l:List Fd} (h:Rd w B 4 A n c (fdsV l)):n = l.length:=by
 have:=h.len
 rw [fdsV_length] at this
 omega
theorem errFrom_at {l:List Fd} {k e:Nat} (hk:k < l.length) (h:errAt l k = e) (he:e ≠ 0):errFrom l (l.length - k) k = e:=by
 rw [show l.length - k = (l.length - (k + 1)) + 1 by omega,errFrom_yes _ _ _ (by rw [h];exact he),h]
theorem errFrom_next {l:List Fd} {k:Nat} (hk:k < l.length) (h:errAt l k = 0):errFrom l (l.length - k) k = errFrom l (l.length - (k + 1)) (k + 1):=by
 rw [show l.length - k = (l.length - (k + 1)) + 1 by omega,errFrom_no _ _ _ h]
section
variable {l:List Fd} {k:Nat} {f:Fd} (hf:l.getD k default = f)
include hf
theorem errAt_81 (h:f.id.toNat ≤ wasId l k):errAt l k = 81:=by unfold errAt;rw [hf];simp only [h,if_true]
theorem errAt_80 (h:¬ f.id.toNat ≤ wasId l k) (h2:(!named f.name || hasName (l.take k) f.name) = true):errAt l k = 80:=by unfold errAt;rw [hf];simp only [h,if_false,h2,if_true]
theorem errAt_10 (h:¬ f.id.toNat ≤ wasId l k) (h2:(!named f.name || hasName (l.take k) f.name) = false) (h3:f.kind.toNat < 1 ∨ 3 < f.kind.toNat):errAt l k = 10:=by
 unfold errAt;rw [hf]
 have h3':(decide (f.kind.toNat < 1) || decide (3 < f.kind.toNat)) = true:=by simpa using h3
 simp only [h,if_false,h2,h3',if_true,Bool.false_eq_true]
theorem errAt_82 (h:¬ f.id.toNat ≤ wasId l k) (h2:(!named f.name || hasName (l.take k) f.name) = false) (h3:¬ (f.kind.toNat < 1 ∨ 3 < f.kind.toNat)) (h4:((f.need != decide (k = 0)) || (decide (k = 0) && decide (f.kind.toNat = 2))) = true):errAt l k = 82:=by
 unfold errAt;rw [hf]
 have h3':(decide (f.kind.toNat < 1) || decide (3 < f.kind.toNat)) = false:=by simp;omega
 simp only [h,if_false,h2,h3',h4,if_true,Bool.false_eq_true]
theorem errAt_0 (h:¬ f.id.toNat ≤ wasId l k) (h2:(!named f.name || hasName (l.take k) f.name) = false) (h3:¬ (f.kind.toNat < 1 ∨ 3 < f.kind.toNat)) (h4:((f.need != decide (k = 0)) || (decide (k = 0) && decide (f.kind.toNat = 2))) = false):errAt l k = 0:=by
 unfold errAt;rw [hf]
 have h3':(decide (f.kind.toNat < 1) || decide (3 < f.kind.toNat)) = false:=by simp;omega
 simp only [h,if_false,h2,h3',h4,Bool.false_eq_true]
end
/-! ### a schema with a field more -/
def lastId (l:List Fd):Nat:=(l.getD (l.length - 1) default).id.toNat
def newFd (l:List Fd) (name:ByteArray) (k:Nat):Fd:=⟨UInt32.ofNat (lastId l + 1),name,UInt8.ofNat k,false⟩
theorem check_len {id:UInt32} {l:List Fd} (h:check id l = 0):1 ≤ id.toNat ∧ 1 ≤ l.length ∧ l.length ≤ 8:=by
 unfold check at h
 split at h
 ·omega
 ·omega
theorem ofNat32 {n:Nat} (h:n < 4294967296):(UInt32.ofNat n).toNat = n:=by rw [UInt32.toNat_ofNat'];omega
theorem ofNat8 {n:Nat} (h:n < 256):(UInt8.ofNat n).toNat = n:=by rw [UInt8.toNat_ofNat'];omega
/-- a schema that reads so -/
def SchR (w:World) (v:Value) (id:UInt32) (l:List Fd):Prop:=∃ A c,v = .agg #[.int .u32 (id.toNat:Int),.slice A l.length c] ∧ Rd w w.heap.size 4 A l.length c (fdsV l)
theorem SchR.none (w:World):SchR w (.agg #[.int .u32 0,.slice none 0 0]) 0 []:=⟨Option.none,0,rfl,Rd.nil _ _ _⟩
end


end
end Go.Proofs.YtpfofefecamkfaaGreatDoor
