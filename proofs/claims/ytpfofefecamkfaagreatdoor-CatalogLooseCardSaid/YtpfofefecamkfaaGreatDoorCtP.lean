/- PLAIN: what a catalog's calls do to a store and to a catalog. No statement of the seat is proved here; no condition. -/
import Derived.Test.YtpfofefecamkfaaGreatDoorG13
import Derived.Test.YtpfofefecamkfaaGreatDoorGIt
import Derived.Lib.SlTrimSet
namespace Go.Proofs.YtpfofefecamkfaaGreatDoor
open Go.RowKit

/-- a table -/
structure Tb where
 ss:List Ps
 ns:List Sn
 cur:UInt64
instance:Inhabited Tb:=⟨⟨[],[],0⟩⟩
/-- a catalog: what it knows, under which name -/
structure Ct where
 t:Tb
 nm:ByteArray
/-- a draft -/
structure Dr where
 rew:Bool
 fs:List Fd
 adds:List En
 drops:List ByteArray
 off:UInt64
 tim:UInt64
def digs:List UInt8:=[48,49,50,51,52,53,54,55,56,57]
def nLow (s:ByteArray):Bool:=decide (s.size < 2) || (decide ((s.get! 0).toNat < 97) || decide (122 < (s.get! 0).toNat))
def nOdd (s:ByteArray):Bool:=decide ((s.get! 1).toNat = 48) || !(Lib.trimS (s.data.toList.drop 1) digs).isEmpty
def nVal (s:ByteArray):Nat:=match Lib.atoiAll (s.data.toList.drop 1) with
 | .ok v => v.toNat
 | _ => 1073741824
/-- a name's number -/
def numOf (s:ByteArray):Nat:=if nLow s = true then 0 else if nOdd s = true then 0 else nVal s
def mostOf (l:List ByteArray):Nat:=l.foldl (fun m s => max m (numOf s)) 0
def stName (c:UInt8) (n:Nat):ByteArray:=⟨(c :: Lib.decDigits n).toArray⟩
def no_:ByteArray:=⟨#[]⟩
def isLow (c:UInt8):Bool:=decide (97 ≤ c.toNat) && decide (c.toNat ≤ 122)
def So.stage2 (s:So) (nm:ByteArray) (bs:List UInt8):So × ByteArray × Nat :=
 if (s.put nm bs).2 ≠ 0 then ((s.put nm bs).1,no_,(s.put nm bs).2)
 else if ((s.put nm bs).1.sync nm).2 ≠ 0 then (((s.put nm bs).1.sync nm).1,no_,((s.put nm bs).1.sync nm).2)
 else (((s.put nm bs).1.sync nm).1,nm,0)
def So.stage (s:So) (c:UInt8) (bs:List UInt8):So × ByteArray × Nat :=
 if isLow c = false then (s,no_,1)
 else if s.dead = true then (s,no_,120)
 else if 1073741824 ≤ mostOf (namesM s.m) then (s,no_,6)
 else s.stage2 (stName c (mostOf (namesM s.m) + 1)) bs
/-- what bytes say as a table -/
def curU (ns:List Sn):UInt64:=(wasN ns ns.length).id
def tbOpen (l:List UInt8):Tb × Nat:=if oErr l = 0 then (⟨(opn ((bodyOf l).drop 3)).1,(opn ((bodyOf l).drop 3)).2.1,curU (opn ((bodyOf l).drop 3)).2.1⟩,0) else (default,oErr l)
def So.cellE (s:So):ByteArray × Nat:=if s.dead = true then (no_,120) else (s.cell,0)
def So.refresh (s:So) (c:Ct):Ct × Nat :=
 if s.dead = true then (c,120) else if (s.get s.cell).2 ≠ 0 then (c,(s.get s.cell).2)
 else if (tbOpen (s.get s.cell).1).2 ≠ 0 then (c,(tbOpen (s.get s.cell).1).2) else (⟨(tbOpen (s.get s.cell).1).1,s.cell⟩,0)
/-- the entries of manifests -/
def So.ents (s:So):List ByteArray → List (List En) → List (List En) × Nat
 | [],acc => (acc,0)
 | nm :: r,acc => if (s.get nm).2 ≠ 0 then ([],(s.get nm).2) else if (opE (s.get nm).1).1 ≠ 0 then ([],(opE (s.get nm).1).1) else So.ents s r (acc ++ [(opE (s.get nm).1).2])
def So.entries (s:So) (ms:List ByteArray):List En × Nat:=if (s.ents ms []).2 ≠ 0 then ([],(s.ents ms []).2) else (mergeE (s.ents ms []).1,0)
/-- the current snapshot -/
def idAt (ns:List Sn) (id:UInt64):Int:=ixA (fun f:Sn => (f.id.toNat:Int) == (id.toNat:Int)) ns
def Tb.nowI (t:Tb):Int:=if t.cur.toNat = 0 then -1 else idAt t.ns t.cur
def Tb.now (t:Tb):Sn:=if 0 ≤ t.nowI then t.ns.getD t.nowI.toNat default else default
def Tb.lastS (t:Tb):Ps:=t.ss.getD (t.ss.length - 1) ps0
/-- a table with more fields -/
def wider:Tb → List Fd → Tb × Nat
 | t,[] => (t,0)
 | t,f :: r =>
   if f.id ≠ 0 ∨ f.need = true then (default,1)
   else if addErr t.lastS.1 t.lastS.2 f.name f.kind.toNat ≠ 0 then (default,addErr t.lastS.1 t.lastS.2 f.name f.kind.toNat)
   else if growErr t.ss t.ns t.cur.toNat (addId t.lastS.1 t.lastS.2 f.name f.kind.toNat,addFds t.lastS.1 t.lastS.2 f.name f.kind.toNat) ≠ 0 then (default,growErr t.ss t.ns t.cur.toNat (addId t.lastS.1 t.lastS.2 f.name f.kind.toNat,addFds t.lastS.1 t.lastS.2 f.name f.kind.toNat))
   else wider ⟨t.ss ++ [(addId t.lastS.1 t.lastS.2 f.name f.kind.toNat,addFds t.lastS.1 t.lastS.2 f.name f.kind.toNat)],t.ns,t.cur⟩ r
/-- the next snapshot, as it begins -/
def sn0 (now:Sn) (d:Dr) (shape:UInt32):Sn:=⟨now.id + 1,now.id,now.seq,now.off,if d.tim.toNat < now.tim.toNat then now.tim else d.tim,shape,[]⟩
def sn1 (now:Sn) (d:Dr) (shape:UInt32):Sn:=if d.rew = true then sn0 now d shape else { sn0 now d shape with seq:=now.seq + 1,off:=d.off }
def setSeq (q:UInt64) (x:En):En := { x with seq:=q }
def adds1 (now:Sn) (d:Dr):List En:=if d.rew = true then d.adds else d.adds.map (setSeq (now.seq + 1))
def nmIn (l:List ByteArray) (s:ByteArray):Bool:=l.any fun y => s.toList == y.toList
def hasEn (l:List En) (s:ByteArray):Bool:=l.any fun x => x.name.toList == s.toList
def all1 (now:Sn) (d:Dr) (old:List En):List En:=(old.filter fun x => !nmIn d.drops x.name) ++ adds1 now d
def draft0 (t:Tb) (d:Dr):Nat :=
 if d.rew = false then (if 0 < d.drops.length then 1 else if d.off.toNat ≤ t.now.off.toNat then 220 else 0) else if 0 ≤ t.nowI then 0 else 150
def draft1 (t:Tb) (d:Dr) (shape:UInt32) (old:List En):Nat × Sn × List En :=
 if (d.drops.all fun n => hasEn old n) = false then (150,default,[])
 else if d.rew = true ∧ (d.adds.any fun x => decide (t.now.seq.toNat < x.seq.toNat)) = true then (1,default,[])
 else if 1073741824 < (sn1 t.now d shape).id.toNat then (6,default,[])
 else if 64 < (all1 t.now d old).length then (4,default,[])
 else if d.rew = false ∧ t.now.ms.length < 8 then (0, { sn1 t.now d shape with ms:=t.now.ms },adds1 t.now d)
 else (0,sn1 t.now d shape,all1 t.now d old)
def So.draft (s:So) (t:Tb) (d:Dr) (shape:UInt32):Nat × Sn × List En :=
 if draft0 t d ≠ 0 then (draft0 t d,default,[])
 else if (s.entries t.now.ms).2 ≠ 0 then ((s.entries t.now.ms).2,default,[])
 else draft1 t d shape (s.entries t.now.ms).1
/-- a change of a table: the store behind it; an error, the table, the snapshot -/
structure Ch where
 s:So
 e:Nat
 t:Tb
 n:Sn
def chCommit3 (_s:So) (w:Tb) (sn:Sn) (st:So × ByteArray × Nat):Ch :=
 if st.2.2 ≠ 0 then ⟨st.1,st.2.2,default,default⟩
 else if pushErr w.ss w.ns { sn with ms:=sn.ms ++ [st.2.1] } ≠ 0 then ⟨st.1,pushErr w.ss w.ns { sn with ms:=sn.ms ++ [st.2.1] },default,default⟩
 else ⟨st.1,0,⟨w.ss,w.ns ++ [{ sn with ms:=sn.ms ++ [st.2.1] }],sn.id⟩, { sn with ms:=sn.ms ++ [st.2.1] }⟩
def chCommit2 (s:So) (w:Tb) (g:Nat × Sn × List En):Ch :=
 if g.1 ≠ 0 then ⟨s,g.1,default,default⟩
 else if errE g.2.2 ≠ 0 then ⟨s,errE g.2.2,default,default⟩
 else chCommit3 s w g.2.1 (s.stage 109 (wrES g.2.2))
def chCommit (d:Dr) (s:So) (t:Tb):Ch :=
 if (wider t d.fs).2 ≠ 0 then ⟨s,(wider t d.fs).2,default,default⟩ else chCommit2 s (wider t d.fs).1 (s.draft t d (wider t d.fs).1.lastS.1)
/-- a try: done, with the error; or on -/
structure Tr where
 s:So
 c:Ct
 e:Nat
 on:Bool
 n:Sn
def try3 (c:Ct) (h:Ch) (q:So × Nat) (nm:ByteArray):Tr :=
 if q.2 = 0 then ⟨q.1,⟨h.t,nm⟩,0,false,h.n⟩
 else if q.2 ≠ 123 then ⟨q.1,c,q.2,false,h.n⟩
 else if (q.1.refresh c).2 ≠ 0 then ⟨q.1,c,(q.1.refresh c).2,false,h.n⟩
 else ⟨q.1,(q.1.refresh c).1,0,true,h.n⟩
def try2 (c:Ct) (h:Ch) (st:So × ByteArray × Nat):Tr:=try3 c h (if st.2.2 = 0 then st.1.swap c.nm st.2.1 else (st.1,st.2.2)) st.2.1
def try1 (c:Ct) (h:Ch):Tr :=
 if h.e ≠ 0 then ⟨h.s,c,h.e,false,default⟩
 else if rightP h.t.ss h.t.ns h.t.cur.toNat = false then ⟨h.s,c,1,false,default⟩
 else try2 c h (h.s.stage 116 (wrS h.t.ss h.t.ns))
def publish (chg:So → Tb → Ch):Nat → So → Ct → Tr
 | 0,s,c => ⟨s,c,123,false,default⟩
 | k + 1,s,c => if (try1 c (chg s c.t)).on = true then publish chg k (try1 c (chg s c.t)).s (try1 c (chg s c.t)).c else try1 c (chg s c.t)
end Go.Proofs.YtpfofefecamkfaaGreatDoor
