/- ROWS WHOSE BLOCKS MEET A PREDICATE: tables, entries, strings that others do not write; what a call may turn; a catalog in memory. No statement of the seat is proved here; no condition. -/
import Derived.Test.YtpfofefecamkfaaGreatDoorCtP
namespace Go.Proofs.YtpfofefecamkfaaGreatDoor
open Go.RowKit

/-- a row whose block meets P -/
structure RdQ (w:World) (P:Nat → Prop) (sz:Nat) (A:Option Addr) (n c:Nat) (xs:List Value):Prop where
 rd:Rd w w.heap.size sz A n c xs
 at_:0 < n → ∃ b off,A = some ⟨b,off,none⟩ ∧ P b
section
variable {w w':World} {P Q:Nat → Prop} {sz n c:Nat} {A:Option Addr} {xs:List Value}
theorem RdQ.keep (h:RdQ w P sz A n c xs) (hsz:w.heap.size ≤ w'.heap.size) (hk:∀ p:Addr,P p.block → p.block < w.heap.size → w'.cell? p = w.cell? p):RdQ w' P sz A n c xs :=
 ⟨⟨h.rd.len,h.rd.le,h.rd.cap,fun hn => by
  obtain ⟨b,off,e,hb,hc⟩:=h.rd.at_ hn
  obtain ⟨b2,off2,e2,hp⟩:=h.at_ hn
  rw [e] at e2
  injection e2 with e2
  injection e2 with e2 e3
  subst e2
  exact ⟨b,off,e,Nat.lt_of_lt_of_le hb hsz,fun j u hu => (hk ⟨b,off + j,none⟩ hp hb).trans (hc j u hu)⟩⟩,h.at_⟩
theorem RdQ.low (h:RdQ w P sz A n c xs) (hb:Below w.heap.size w w'):RdQ w' P sz A n c xs:=h.keep hb.size fun _ _ hl => hb.cell hl
theorem RdQ.imp (h:RdQ w P sz A n c xs) (hi:∀ k,P k → k < w.heap.size → Q k):RdQ w Q sz A n c xs :=
 ⟨h.rd,fun hn => by
  obtain ⟨b,off,e,hb,_⟩:=h.rd.at_ hn
  obtain ⟨b2,off2,e2,hp⟩:=h.at_ hn
  rw [e] at e2
  injection e2 with e2
  injection e2 with e2 e3
  subst e2
  exact ⟨b,off,e,hi b hp hb⟩⟩
theorem RdQ.own {base:Nat} {e:TypeId} (h:w.ownsRow base e sz (.slice A n c) n xs) (hP:∀ k,base ≤ k → k < w.heap.size → P k):RdQ w P sz A n c xs :=
 ⟨rd_own h,fun hn => by
  obtain ⟨g,cap,q,hb,_⟩:=h.form hn
  injection q with q1 _ _
  have:=h.lt g (by rw [q1];rfl)
  exact ⟨g,0,q1,hP g this.1 this.2⟩⟩
theorem RdQ.ofRd {B:Nat} (h:Rd w B sz A n c xs) (hB:B ≤ w.heap.size) (hP:∀ k,k < B → P k):RdQ w P sz A n c xs :=
 ⟨h.more hB,fun hn => by obtain ⟨b,off,e,hb,_⟩:=h.at_ hn;exact ⟨b,off,e,hP b hb⟩⟩
theorem RdQ.nil (w:World) (P:Nat → Prop) (sz:Nat):RdQ w P sz none 0 0 []:=⟨Rd.nil _ _ _,fun h => absurd h (by omega)⟩
theorem RdQ.p {l:List UInt8} (h:RdQ w P 1 A n c (bytesV l)):RdP w P A n c l:=⟨h.rd,h.at_⟩
end
theorem own_keep {w w':World} {base sz n:Nat} {e:TypeId} {v:Value} {xs:List Value} (h:w.ownsRow base e sz v n xs) (hk:∀ g,v.ownBlock = some g → g < w.heap.size → w'.heap[g]? = w.heap[g]?):w'.ownsRow base e sz v n xs :=
 ⟨h.1,h.2.imp id fun ⟨g,cap,cur,hv,hb,hg,r⟩ => ⟨g,cap,cur,hv,hb,(hk g (by rw [hv];rfl) (Array.getElem?_eq_some_iff.1 hg).1).trans hg,r⟩⟩
/-- what a call may turn: the blocks that meet M -/
structure Mst (M:Nat → Prop) (w w':World):Prop where
 os:w'.os = w.os
 tape:w'.tape = w.tape
 output:w'.output = w.output
 size:w.heap.size ≤ w'.heap.size
 block:∀ k,k < w.heap.size → ¬ M k → w'.heap[k]? = w.heap[k]?
section
variable {M N:Nat → Prop} {u w w':World} {sb mb b:Nat}
theorem Mst.refl (M:Nat → Prop) (w:World):Mst M w w:=⟨rfl,rfl,rfl,Nat.le_refl _,fun _ _ _ => rfl⟩
theorem Mst.trans (h:Mst M u w) (k:Mst M w w'):Mst M u w':=⟨k.os.trans h.os,k.tape.trans h.tape,k.output.trans h.output,Nat.le_trans h.size k.size,fun i hi h1 => (k.block i (Nat.lt_of_lt_of_le hi h.size) h1).trans (h.block i hi h1)⟩
theorem Mst.imp (h:Mst M w w') (hi:∀ k,k < w.heap.size → M k → N k):Mst N w w':=⟨h.os,h.tape,h.output,h.size,fun k hk hn => h.block k hk fun q => hn (hi k hk q)⟩
theorem Mst.of (h:Below w.heap.size w w'):Mst M w w':=⟨h.os,h.tape,h.output,h.size,fun k hk _ => h.block k hk⟩
theorem Mst.ofOst (h:Ost sb mb w w') (h1:M sb) (h2:M mb):Mst M w w':=⟨h.os,h.tape,h.output,h.size,fun k hk hn => h.block k hk (fun q => hn (by rw [q];exact h1)) (fun q => hn (by rw [q];exact h2))⟩
theorem Mst.ofOth (h:Oth b w w') (h1:M b):Mst M w w':=⟨h.os,h.tape,h.output,h.size,fun k hk hn => h.block k hk (fun q => hn (by rw [q];exact h1))⟩
theorem Mst.cell (h:Mst M w w') {p:Addr} (hp:p.block < w.heap.size) (hn:¬ M p.block):w'.cell? p = w.cell? p:=World.cell?_of_block (w:=w) (h.block _ hp hn)
theorem Mst.below (h:Mst M w w') {B:Nat} (h1:∀ k,M k → B ≤ k) (h2:B ≤ w.heap.size):Below B w w':=⟨h.os,h.tape,h.output,h.size,fun k hk => h.block k (by omega) (fun q => by have:=h1 k q;omega)⟩
theorem Mst.box {cs:List Value} (h:Mst M w w') (hb:BoxN w b cs) (hn:¬ M b):BoxN w' b cs :=
 ⟨fun j v hj => (World.cell?_of_block (w:=w) (a:=⟨b,j,none⟩) (h.block b hb.z hn)).trans (hb.cell j v hj),fun j hj => (World.frozen?_of_block (w:=w) (a:=⟨b,j,none⟩) (h.block b hb.z hn)).trans (hb.free j hj),Nat.lt_of_lt_of_le hb.z h.size⟩
theorem Mst.rdq {P:Nat → Prop} {sz n c:Nat} {A:Option Addr} {xs:List Value} (h:Mst M w w') (hr:RdQ w P sz A n c xs) (hP:∀ k,P k → ¬ M k):RdQ w' P sz A n c xs:=hr.keep h.size fun _ hp hl => h.cell hl (hP _ hp)
theorem Mst.own {base sz n:Nat} {e:TypeId} {v:Value} {xs:List Value} (h:Mst M w w') (ho:w.ownsRow base e sz v n xs) (hn:∀ k,base ≤ k → ¬ M k):w'.ownsRow base e sz v n xs :=
 own_keep ho fun g hg hl => h.block g hl (hn g (ho.lt g hg).1)
end
/-- a table's rows, whose blocks meet P -/
structure TabQ (w:World) (P:Nat → Prop) (sA:Option Addr) (sc:Nat) (ss:List Sl) (nA:Option Addr) (nc:Nat) (ns:List Nl):Prop where
 s:RdQ w P 2 sA ss.length sc (slsV ss)
 si:∀ s ∈ ss,RdQ w P 4 s.A s.fs.length s.c (fdsV s.fs)
 n:RdQ w P 7 nA ns.length nc (nlsV ns)
 ni:∀ s ∈ ns,RdQ w P 1 s.A s.p.ms.length s.c (strsV s.p.ms)
section
variable {w w':World} {P Q:Nat → Prop} {sA nA:Option Addr} {sc nc:Nat} {ss:List Sl} {ns:List Nl}
theorem TabQ.tab (h:TabQ w P sA sc ss nA nc ns):TabR w w.heap.size sA sc ss nA nc ns:=⟨h.s.rd,fun s hs => (h.si s hs).rd,h.n.rd,fun s hs => (h.ni s hs).rd⟩
theorem TabQ.keep (h:TabQ w P sA sc ss nA nc ns) (hsz:w.heap.size ≤ w'.heap.size) (hk:∀ p:Addr,P p.block → p.block < w.heap.size → w'.cell? p = w.cell? p):TabQ w' P sA sc ss nA nc ns :=
 ⟨h.s.keep hsz hk,fun s hs => (h.si s hs).keep hsz hk,h.n.keep hsz hk,fun s hs => (h.ni s hs).keep hsz hk⟩
theorem TabQ.low (h:TabQ w P sA sc ss nA nc ns) (hb:Below w.heap.size w w'):TabQ w' P sA sc ss nA nc ns:=h.keep hb.size fun _ _ hl => hb.cell hl
theorem TabQ.imp (h:TabQ w P sA sc ss nA nc ns) (hi:∀ k,P k → k < w.heap.size → Q k):TabQ w Q sA sc ss nA nc ns:=⟨h.s.imp hi,fun s hs => (h.si s hs).imp hi,h.n.imp hi,fun s hs => (h.ni s hs).imp hi⟩
theorem TabQ.mst {M:Nat → Prop} (h:TabQ w P sA sc ss nA nc ns) (m:Mst M w w') (hP:∀ k,P k → ¬ M k):TabQ w' P sA sc ss nA nc ns:=h.keep m.size fun _ hp hl => m.cell hl (hP _ hp)
theorem TabQ.own {B:Nat} (h:OwnT w B sA sc ss nA nc ns) (hP:∀ k,B ≤ k → k < w.heap.size → P k):TabQ w P sA sc ss nA nc ns :=
 ⟨.own h.sown hP,fun s hs => .own (h.sin s hs) hP,.own h.nown hP,fun s hs => .own (h.nin s hs) hP⟩
theorem TabQ.nil (w:World) (P:Nat → Prop):TabQ w P none 0 [] none 0 []:=⟨.nil _ _ _,by simp,.nil _ _ _,by simp⟩
end
/-- the entries' rows, whose blocks meet P -/
structure EnQ (w:World) (P:Nat → Prop) (A:Option Addr) (c:Nat) (l:List El):Prop where
 row:RdQ w P 6 A l.length c (elsV l)
 ins:∀ x ∈ l,RdQ w P 10 x.A x.p.stats.length x.c (stsV x.p.stats)
section
variable {w w':World} {P Q:Nat → Prop} {A:Option Addr} {c:Nat} {l:List El}
theorem EnQ.en (h:EnQ w P A c l):EnR w w.heap.size A c l:=⟨h.row.rd,fun x hx => (h.ins x hx).rd⟩
theorem EnQ.keep (h:EnQ w P A c l) (hsz:w.heap.size ≤ w'.heap.size) (hk:∀ p:Addr,P p.block → p.block < w.heap.size → w'.cell? p = w.cell? p):EnQ w' P A c l:=⟨h.row.keep hsz hk,fun x hx => (h.ins x hx).keep hsz hk⟩
theorem EnQ.low (h:EnQ w P A c l) (hb:Below w.heap.size w w'):EnQ w' P A c l:=h.keep hb.size fun _ _ hl => hb.cell hl
theorem EnQ.imp (h:EnQ w P A c l) (hi:∀ k,P k → k < w.heap.size → Q k):EnQ w Q A c l:=⟨h.row.imp hi,fun x hx => (h.ins x hx).imp hi⟩
theorem EnQ.mst {M:Nat → Prop} (h:EnQ w P A c l) (m:Mst M w w') (hP:∀ k,P k → ¬ M k):EnQ w' P A c l:=h.keep m.size fun _ hp hl => m.cell hl (hP _ hp)
end
/-- what is laid when the program starts -/
structure Tabs (w:World):Prop where
 crc:Table w
 pow:Lib.TabIs Tryz.prog w "internal/strconv.uint64pow10" .u64 Lib.pow10Tab
 rng:∃ (tp:TypeId) (p:Value),w.var? Tryz.prog "strconv.ErrRange" = some #[.iface tp p]
 z:9 ≤ w.heap.size
theorem gPow:Tryz.prog.globalNamed "internal/strconv.uint64pow10" = some 3:=by kernel_rfl
theorem gRng:Tryz.prog.globalNamed "strconv.ErrRange" = some 2:=by kernel_rfl
theorem var_keep {w w':World} {name:String} {g:Nat} (hg:Tryz.prog.globalNamed name = some g) (hb:w'.heap[g]? = w.heap[g]?):w'.var? Tryz.prog name = w.var? Tryz.prog name:=by
 unfold World.var?
 rw [hg,Option.bind_some,Option.bind_some,hb]
theorem Tabs.keep {w w':World} (h:Tabs w) (hz:w.heap.size ≤ w'.heap.size) (hb:∀ k,k < 9 → w'.heap[k]? = w.heap[k]?):Tabs w' :=
 ⟨fun j hj => (World.cell?_of_block (w:=w) (a:=⟨0,j,none⟩) (hb 0 (by decide))).trans (h.crc j hj),
  (var_keep gPow (hb _ (by decide))).trans h.pow,
  by obtain ⟨tp,p,e⟩:=h.rng;exact ⟨tp,p,(var_keep gRng (hb _ (by decide))).trans e⟩,Nat.le_trans h.z hz⟩
theorem Tabs.low {w w':World} (h:Tabs w) (hb:Below w.heap.size w w'):Tabs w':=h.keep hb.size fun k hk => hb.block k (Nat.lt_of_lt_of_le hk h.z)
theorem Tabs.mst {w w':World} {M:Nat → Prop} (h:Tabs w) (m:Mst M w w') (hM:∀ k,M k → 9 ≤ k):Tabs w' :=
 h.keep m.size fun k hk => m.block k (Nat.lt_of_lt_of_le hk h.z) fun q => by have:=hM k q;omega
end Go.Proofs.YtpfofefecamkfaaGreatDoor
