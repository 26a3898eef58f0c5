/- WHAT SERVES THE TABLES' STATEMENTS, part 8: E0, E1, EnRd, EnP. No statement of the seat is proved here. -/
import Derived.Test.YtpfofefecamkfaaGreatDoorG6
import Derived.WalkKit
import Derived.WalkSpells
import Derived.WalkLawsBesides
import Derived.Deep.Draws
import Derived.Deep.AppendLies
import Derived.Maps.AppendAt
import Derived.BigQuiet
import Derived.Deep.QuietTactic
import Derived.Deep.RegionWith
import Derived.Handy
import Derived.Lib.DecodeN
import Derived.Lib.RuneCountTail
import Derived.Still
import Derived.StillTail
import Derived.Laws.ResultCell
import Derived.Deep.OwnRows
import Derived.Deep.CutRange
import Derived.Deep.RegionHeld3
import Init.Data.List.Lemmas
import Derived.Test.YtpfofefecamkfaaGreatDoorProg
import Derived.Lib.SliceRun
import Derived.Deep.RegionLaw
import Derived.Laws.IdiomRangeMap
import Derived.ProofKit
import Derived.OpenShut
import Derived.ShutString
import Derived.ChangeOld
import Derived.SizedLaws
import Derived.Below
import Derived.Deep.Slices
import Derived.Deep.Fields
import Derived.ChangeSame
import Derived.Lib.SmallJoins
import Derived.Lib.AppendStr
import Init.Data.BitVec.Lemmas
namespace Go.Proofs.YtpfofefecamkfaaGreatDoor
open Go.RowKit
set_option maxRecDepth 100000

section
section
open Go.RowKit

/-! ### Slices that read a list of cells -/
section
variable {w w':World} {B B' sz n c:Nat} {A:Option Addr} {xs:List Value}

end

/-! ### Types of slices -/
/-! ### cuts, as equations for the walk -/

/-! ### append onto a row of the call's own -/
section
variable {P:Program} (w:World)

end

/-! ### Bytes -/
end



section
open Go.Lib

/-! ### one sign, by its bytes -/
end




/-! ### two rows of the call's own lie apart -/

section
open Go.RowKit

instance:Inhabited Fd:=⟨⟨0,ByteArray.empty,0,false⟩⟩
section
variable {l:List Fd} {k:Nat} {f:Fd} (hf:l.getD k default = f)
include hf
end
/-! ### a schema with a field more -/
def addErr (id:UInt32) (l:List Fd) (name:ByteArray) (k:Nat):Nat :=
 if check id l ≠ 0 then check id l
 else if l.length = 8 ∨ lastId l = 4294967295 ∨ id.toNat = 4294967295 then 4
 else if (!named name || hasName l name) = true then 80
 else if k < 1 ∨ 3 < k then 10 else 0
def addId (id:UInt32) (l:List Fd) (name:ByteArray) (k:Nat):UInt32:=if addErr id l name k = 0 then UInt32.ofNat (id.toNat + 1) else 0
def addFds (id:UInt32) (l:List Fd) (name:ByteArray) (k:Nat):List Fd:=if addErr id l name k = 0 then l ++ [newFd l name k] else []
end

section
open Go.RowKit

section
variable {P:Program} {ops:Array Oper} {md:Region.Mode} {E:World → World → Prop} {w0:World}

/-! ### From what is known to the frame -/
/-! ### Whatever order is picked -/
/-! ### Of a head, with a tail in one order -/
/-! ### The steps of the walk -/
section
variable {Q:List Slot → Prop} {o:Oper} {rest:List Oper} {ss:List Slot}

end

/-! ### At the end: the frame written out -/
end

/-! ### The growth in use: what was there is as it was -/
end


def AddEnd (w:World) (id:UInt32) (l:List Fd) (name:ByteArray) (k:Nat) (e:Ending) (w':World):Prop :=
 ∃ v,e = .returned (.tuple #[v,.int .i64 (addErr id l name k:Int)]) ∧ SchR w' v (addId id l name k) (addFds id l name k) ∧ Below w.heap.size w w'
theorem AddEnd.bad {w w':World} {id:UInt32} {l:List Fd} {name:ByteArray} {k er:Nat} (h1:addErr id l name k = er) (h2:addId id l name k = 0) (h3:addFds id l name k = []) (hb:Below w.heap.size w w') :
 AddEnd w id l name k (.returned (.tuple #[.agg #[.int .u32 0,.slice none 0 0],.int .i64 (er:Int)])) w':=⟨_,by rw [h1],by rw [h2,h3];exact SchR.none _,hb⟩


instance:Inhabited Vl:=⟨.none⟩


instance:Inhabited Cl:=⟨⟨0,0,⟨#[]⟩⟩⟩
/-- is it the empty text? -/
def emp (s:ByteArray):Bool:=s.toList.isEmpty
theorem emp_size (s:ByteArray):emp s = decide (s.size = 0):=by
 unfold emp
 rw [Lib.toList_data,Lib.size_eq]
 cases s.data.toList <;> simp
/-- the error of a cell -/
def cellErr (c:Cl):Nat :=
 if 3 < c.kind.toNat then 10
 else if (c.kind.toNat ≠ 3 ∧ emp c.s = false) ∨ (c.kind.toNat ≠ 1 ∧ c.kind.toNat ≠ 2 ∧ c.n ≠ 0) ∨ (c.kind.toNat = 2 ∧ c.n ≠ 0 ∧ c.n ≠ 1) then 1
 else if 64 < c.s.size then 5 else 0







/-! ### texts -/
/-! ### a row that does not lie in a box -/
/-! ### what holds at each round -/

/-! ### rows that are alike -/

section
namespace Var

end Var
end






/-! ### all but one block is as it was -/
/-! ### a cut of bytes -/
/-! ### a reader's box -/
/-! ### plain: numbers, texts, fields -/


/-! ### what Unpack and the document's Schema give -/
/-! ### what holds at each round -/

section
open Go.RowKit

/-! ### the first place -/

/-! ### rows of structs -/
/-! ### snapshots, schemas -/
instance:Inhabited Sn:=⟨⟨0,0,0,0,0,0,[]⟩⟩
instance:Inhabited Nl:=⟨⟨default,none,0⟩⟩
instance:Inhabited Sl:=⟨⟨0,[],none,0⟩⟩
section
variable {w w':World} {B B' sc nc:Nat} {sA nA:Option Addr} {ss:List Sl} {ns:List Nl}
end
end


end

section





/-! ### a snapshot as a value of its own -/




/-! ### words for regions -/
/-! ### a table as a value -/



section
end














section
open Go.RowKit

section
variable {w w':World} {b:Nat} {sA:Option Addr} {sc:Nat} {ss:List Sl} {nA:Option Addr} {nc:Nat} {ns:List Nl} {cu:Nat}
end
end

section
open Go.ChangeShapes Go.WideShapes Go.ChangeAt Go.RowKit
open Go.ChangeMaps (open_string shut_string)

end

section
open Go.ChangeShapes Go.WideShapes Go.ChangeAt Go.RowKit Go.Deep Go.Joins

end


/-- a whole number as a number -/
def zig (n:Int):Nat:=if 0 ≤ n then (2 * n).toNat else (-2 * n - 1).toNat
/-- and back -/
def unzig (m:Nat):Int:=if m % 2 = 0 then (m / 2:Nat) else -((m / 2:Nat):Int) - 1
theorem zig_lt {n:Int} (h0 : -9223372036854775808 ≤ n) (h1:n ≤ 9223372036854775807):zig n < 18446744073709551616:=by
 unfold zig;split <;> omega
theorem xor_ones (a:Nat) (ha:a < 18446744073709551616):bits .xor .u64 (a:Int) 18446744073709551615 = 18446744073709551615 - (a:Int):=by
 have h:=u64_xor_nat a 18446744073709551615 ha (by omega)
 have e:a ^^^ 18446744073709551615 = 18446744073709551615 - a:=by
  have h1:(BitVec.ofNat 64 a ^^^ BitVec.allOnes 64) = ~~~ (BitVec.ofNat 64 a):=BitVec.xor_allOnes
  have h2:=congrArg BitVec.toNat h1
  rw [BitVec.toNat_xor,BitVec.toNat_not,BitVec.toNat_allOnes,BitVec.toNat_ofNat] at h2
  rw [Nat.mod_eq_of_lt (by omega)] at h2
  exact h2
 rw [e] at h
 rw [show (18446744073709551615:Int) = ((18446744073709551615:Nat):Int) from rfl,h]
 omega
theorem putInt_arg (n:Int) (h0 : -9223372036854775808 ≤ n) (h1:n ≤ 9223372036854775807) :
 bits BinOp.xor .u64 (IntKind.u64.wrap (wrap64 (n * 2))) (IntKind.u64.wrap (n / 9223372036854775808)) = (zig n:Int):=by
 by_cases hs:0 ≤ n
 ·have e1:n / 9223372036854775808 = 0:=by omega
  have e2:IntKind.u64.wrap (wrap64 (n * 2)) = ((2 * n).toNat:Int):=by
   rw [show IntKind.u64.wrap (wrap64 (n * 2)) = (wrap64 (n * 2)) % 18446744073709551616 by simp [IntKind.wrap,IntKind.bits,IntKind.signed]]
   unfold wrap64;omega
  rw [e1,e2,show IntKind.u64.wrap 0 = 0 from rfl,xor_zero _ (by omega)]
  unfold zig;rw [if_pos hs]
 ·have e1:n / 9223372036854775808 = -1:=by omega
  have e2:IntKind.u64.wrap (wrap64 (n * 2)) = ((2 * n + 18446744073709551616).toNat:Int):=by
   rw [show IntKind.u64.wrap (wrap64 (n * 2)) = (wrap64 (n * 2)) % 18446744073709551616 by simp [IntKind.wrap,IntKind.bits,IntKind.signed]]
   unfold wrap64;omega
  rw [e1,e2,show IntKind.u64.wrap (-1) = 18446744073709551615 from rfl,xor_ones _ (by omega)]
  unfold zig;rw [if_neg hs];omega

theorem varPutInt (n:Int) (w:World) (h0 : -9223372036854775808 ≤ n) (h1:n ≤ 9223372036854775807) :
 Calls Tryz.prog 238 #[.int .i64 n] w (RetBytes w (Var.put (zig n))):=by
 have hz:=hide (zig_lt h0 h1)
 have ha:=putInt_arg n h0 h1
 clear h0 h1
 go_enter Tryz.func238,Tryz.ntmps238
 go_wp2_with fail
 refine (varPut _ _ (by omega) (by have:=hz.out;omega)).mono ?_
 rintro e w1 ⟨v1,rfl,hown1,hb1⟩
 rw [Int.toNat_natCast] at hown1
 clear ha
 go_wp2_with fail
 go_ret
 exact ⟨v1,rfl,hown1,hb1⟩



def IntGet (l:List UInt8):Value:=.tuple #[.int .i64 (unzig (Var.get l).1),.int .i64 ((Var.get l).2.1:Int),.int .i64 ((Var.get l).2.2:Int)]
def RetInt (w:World) (l:List UInt8) (e:Ending) (w':World):Prop:=e = .returned (IntGet l) ∧ w = w'

theorem getInt_val (g:Nat) (h:g < 18446744073709551616) :
 bits BinOp.xor .i64 (wrap64 ((g:Int) / 2)) (wrap64 (-wrap64 (bits BinOp.and .u64 (g:Int) 1))) = unzig g:=by
 have e1:bits BinOp.and .u64 (g:Int) 1 = ((g % 2:Nat):Int):=by
  have:=u64_and_nat g 1 h (by omega)
  rw [nat_mask1] at this
  exact this
 have e2:wrap64 ((g:Int) / 2) = ((g / 2:Nat):Int):=by rw [IntWalk.wrap64_in _ ⟨by omega,by omega⟩];omega
 rw [e1,e2]
 rcases (show g % 2 = 0 ∨ g % 2 = 1 by omega) with h0 | h0
 ·rw [h0]
  show IntKind.i64.wrap ((BitVec.ofInt 64 ((g / 2:Nat):Int) ^^^ BitVec.ofInt 64 (wrap64 (-wrap64 ((0:Nat):Int)))).toNat:Int) = _
  rw [show wrap64 (-wrap64 ((0:Nat):Int)) = 0 by decide +kernel,show BitVec.ofInt 64 0 = 0#64 from rfl,BitVec.xor_zero,BitVec.ofInt_natCast,BitVec.toNat_ofNat,
   Nat.mod_eq_of_lt (by omega),IntWalk.i64_in _ ⟨by omega,by omega⟩]
  unfold unzig;rw [if_pos h0]
 ·rw [h0]
  show IntKind.i64.wrap ((BitVec.ofInt 64 ((g / 2:Nat):Int) ^^^ BitVec.ofInt 64 (wrap64 (-wrap64 ((1:Nat):Int)))).toNat:Int) = _
  rw [show wrap64 (-wrap64 ((1:Nat):Int)) = -1 by decide +kernel,show BitVec.ofInt 64 (-1) = BitVec.allOnes 64 from by decide,BitVec.xor_allOnes,BitVec.toNat_not,
   BitVec.ofInt_natCast,BitVec.toNat_ofNat,Nat.mod_eq_of_lt (by omega),IntKind.wrap_i64]
  unfold unzig;rw [if_neg (by omega)]
  omega

theorem varGetInt (w:World) (B n c:Nat) (A:Option Addr) (l:List UInt8) (hr:Rd w B 1 A n c (bytesV l)) :
 Calls Tryz.prog 259 #[.slice A n c] w (RetInt w l):=by
 obtain ⟨g,hg⟩:∃ g,g = (Var.get l).1:=⟨_,rfl⟩
 have hlt:g < 18446744073709551616:=by rw [hg];exact Var.get_lt l
 have HG:=hide hg
 have HL:=hide hlt
 clear hg hlt
 go_enter Tryz.func259,Tryz.ntmps259
 go_wp2_with fail
 refine (varGet w B n c A l hr).mono ?_
 rintro e w1 ⟨rfl,rfl⟩
 rw [← HG.out]
 go_wp2
 go_ret3
 refine ⟨?_,rfl⟩
 unfold IntGet
 rw [← HG.out, ← getInt_val g HL.out]
 rfl




section
namespace Crc
/-! ### differences -/
end Crc
end











end


/-! ### plain -/
/-! ### bytes in certain blocks -/
/-! ### the reader's box -/
theorem entNum (w:World) (b:Nat) (P:Nat → Prop) (A:Option Addr) (c:Nat) (l:List UInt8) (bad:Bool) (h:RdrB w b P A c l bad) :
 Calls Tryz.prog 219 #[.pointer (some ⟨b,0,none⟩)] w (MNumEnd w b P (mnum l bad)):=by
 have c0:=h.c0
 have c1:=h.c1
 have f0:=h.f0
 have f1:=h.f1
 go_enter Tryz.func219,Tryz.ntmps219
 go_wp2_with fail
 refine (varGet w w.heap.size _ c A l h.rd.rd).mono ?_
 rintro e w1 ⟨rfl,rfl⟩
 by_cases hg:(Var.get l).2.2 = 0
 ·cases bad with
  | true =>
    have HN:=hide (mnum_bad (l:=l) (bad:=true) (.inr rfl))
    rw [hg]
    generalize (Var.get l).2.1 = g2 at *
    generalize (Var.get l).1 = g1 at *
    clear hg
    go_wp2_with fail
    go_ret
    exact ⟨by rw [HN.out];rfl,⟨A,c,by rw [HN.out];exact h.set1 true⟩,(Oth.refl b w).set 1 _⟩
  | false =>
    have HN:=hide (mnum_ok (l:=l) (bad:=false) (by simp [hg]))
    have hk:(Var.get l).2.1 ≤ l.length:=(Var.get_ok (l:=l) (n:=(Var.get l).1) (k:=(Var.get l).2.1) (by rw [← hg])).2.1
    obtain ⟨A2,l2,hl2,s1,s2,hr2⟩:=h.rd.lo hk
    rw [← hl2] at HN
    obtain ⟨g1,hg1⟩:∃ g,g = (Var.get l).1:=⟨_,rfl⟩
    rw [← hg1] at HN ⊢
    rw [hg]
    generalize (Var.get l).2.1 = g2 at *
    have HR:=hide hr2
    clear hg hg1 hl2 hk hr2
    go_wp2_with fail
    go_ret
    exact ⟨by rw [HN.out];rfl,⟨A2,c - g2,by rw [HN.out];exact h.set0 HR.out⟩,(Oth.refl b w).set 0 _⟩
 ·have HN:=hide (mnum_bad (l:=l) (bad:=bad) (.inl hg))
  obtain ⟨g3,hg3⟩:∃ g,g = (Var.get l).2.2:=⟨_,rfl⟩
  rw [← hg3] at hg ⊢
  generalize (Var.get l).2.1 = g2 at *
  generalize (Var.get l).1 = g1 at *
  have t2:((g3:Int) != 0) = true:=by rw [bne_iff_ne];omega
  clear hg hg3
  go_wp2_with fail
  go_ret
  exact ⟨by rw [HN.out];rfl,⟨A,c,by rw [HN.out];exact h.set1 true⟩,(Oth.refl b w).set 1 _⟩
theorem entText (w:World) (b:Nat) (P:Nat → Prop) (A:Option Addr) (c:Nat) (l:List UInt8) (bad:Bool) (h:RdrB w b P A c l bad) :
 Calls Tryz.prog 220 #[.pointer (some ⟨b,0,none⟩)] w (MTextEnd w b P (mtext l bad)):=by
 go_enter Tryz.func220,Tryz.ntmps220
 go_wp2_with fail
 refine (entNum w b P A c l bad h).mono ?_
 rintro e w1 ⟨rfl,⟨A1,c1,h1⟩,ho⟩
 have HT:Hid (mtext l bad = if (mnum l bad).2.2 = true ∨ (mnum l bad).2.1.length < (mnum l bad).1 then (ByteArray.empty,(mnum l bad).2.1,true) else (⟨((mnum l bad).2.1.take (mnum l bad).1).toArray⟩,(mnum l bad).2.1.drop (mnum l bad).1,false)):=hide rfl
 obtain ⟨n,l1,b1,hm⟩:∃ n l1 b1,mnum l bad = (n,l1,b1):=⟨_,_,_,rfl⟩
 rw [hm] at h1 HT ⊢
 dsimp only at h1 HT ⊢
 have HM:=hide hm
 clear hm
 have d0:=h1.c0
 have d1:=h1.c1
 have f0:=h1.f0
 have f1:=h1.f1
 have hl1:l1.length ≤ 9223372036854775807:=by have h2:=h1.rd.rd.le;have h3:=h1.rd.rd.cap;unfold maxLen at h3;omega
 have e33:IntKind.u64.wrap (l1.length:Int) = (l1.length:Int):=by rw [IntKind.wrap_u64];omega
 have e34:(l1.length:Int) % 18446744073709551616 = (l1.length:Int):=by omega
 cases b1 with
 | true =>
   have HR:=hide (HT.out.trans (if_pos (.inl rfl)))
   clear hl1 e33 e34
   go_wp2_with fail
   go_ret
   exact ⟨by rw [HR.out];rfl,⟨A1,c1,by rw [HR.out];exact h1.set1 true⟩,ho.set 1 _⟩
 | false =>
   by_cases hn:l1.length < n
   ·have HR:=hide (HT.out.trans (if_pos (.inr hn)))
    clear hl1
    go_wp2_with fail
    go_ret
    exact ⟨by rw [HR.out];rfl,⟨A1,c1,by rw [HR.out];exact h1.set1 true⟩,ho.set 1 _⟩
   ·have HR:=hide (HT.out.trans (if_neg (by simp;omega)))
    obtain ⟨A2,l2,hl2,s1,s2,hr2⟩:=h1.rd.lo (lo:=n) (by omega)
    have hcap:=h1.rd.rd.le
    have u1:=fun k W => run_cut_hi (P:=Tryz.prog) tyBytes A1 l1.length c1 k (n:Int) n rfl (by omega) W
    have u2:=fun k W => cut_hi (P:=Tryz.prog) tyBytes A1 l1.length c1 k (n:Int) n rfl (by omega) W
    have hpre:Rd w1 w1.heap.size 1 A1 n c1 (bytesV (l1.take n)):=by
     have:=h1.rd.rd.pre (hi:=n) (by omega)
     simpa [bytesV,List.map_take] using this
    have hstr:=run_str (P:=Tryz.prog) w1 Tryz.underlying55 Tryz.underlying5 Tryz.underlying9 hpre
    have HL2:=hide hl2
    have HRD:=hide hr2
    clear hl2 hr2 hpre hl1
    go_wp2_with fail
    go_ret
    exact ⟨by rw [HR.out];rfl,⟨A2,c1 - n,by rw [HR.out];dsimp only;rw [← HL2.out];exact h1.set0 HRD.out⟩,ho.set 0 _⟩


/-- a cell -/
structure Ce where
 kind:UInt8
 n:Int64
 s:ByteArray
instance:Inhabited Ce:=⟨⟨0,0,ByteArray.empty⟩⟩
def Ce.cl (c:Ce):Cl:=⟨c.kind,c.n.toInt,c.s⟩
/-- a statistic -/
structure St where
 rows:Int64
 nulls:Int64
 som:Bool
 high:Bool
 mn:Ce
 mx:Ce
instance:Inhabited St:=⟨⟨0,0,false,false,default,default⟩⟩
/-- an entry -/
structure En where
 name:ByteArray
 keys:Bool
 seq:UInt64
 rows:Int64
 sch:UInt32
 stats:List St
instance:Inhabited En:=⟨⟨ByteArray.empty,false,0,0,0,[]⟩⟩
/-! ### which may be -/
def bndOk (c:Ce):Bool:=decide (cellErr c.cl = 0) && !decide (c.kind.toNat = 0)
def isZ (c:Ce):Bool:=decide (c.kind.toNat = 0) && (decide (c.n.toInt = 0) && decide (c.s.size = 0))
def statOk (s:St):Bool :=
 decide (0 ≤ s.nulls.toInt) && (decide (s.rows.toInt ≤ 256) && (decide (s.nulls.toInt ≤ s.rows.toInt) &&
  (if s.som = true then decide (s.nulls.toInt < s.rows.toInt) && (bndOk s.mn && (if s.high = true then bndOk s.mx && decide (s.mn.kind.toNat = s.mx.kind.toNat) else isZ s.mx))
   else decide (s.nulls.toInt = s.rows.toInt) && (!s.high && (isZ s.mn && isZ s.mx)))))
def statsOk (rows:Int64) (l:List St):Bool:=l.all fun s => decide (s.rows.toInt = rows.toInt) && statOk s
def rightE (x:En):Bool :=
 pathOk x.name && (decide (x.seq.toNat ≤ 1073741824) && (decide (0 ≤ x.rows.toInt) && (decide (x.rows.toInt ≤ 256) && (decide (1 ≤ x.stats.length) && (decide (x.stats.length ≤ 8) && (statsOk x.rows x.stats &&
  (if x.keys = true then decide (x.sch.toNat = 0) && decide (x.stats.length = 1) else !decide (x.sch.toNat = 0))))))))
/-- does a name stand among them? -/
def hasNm (met:List ByteArray) (s:ByteArray):Bool:=met.any fun m => m.toList == s.toList
theorem bytes_same {a b:ByteArray} (h:a.toList = b.toList):a = b:=by
 rw [ByteArray.toList_eq,ByteArray.toList_eq] at h
 cases a;cases b
 simp only [ByteArray.mk.injEq]
 exact Array.toList_inj.1 h
theorem hasNm_iff {met:List ByteArray} {s:ByteArray}:hasNm met s = true ↔ s ∈ met:=by
 unfold hasNm
 rw [List.any_eq_true]
 constructor
 ·rintro ⟨m,hm,h⟩
  rw [beq_iff_eq] at h
  rw [← bytes_same h]
  exact hm
 ·exact fun h => ⟨s,h,by simp⟩
/-- all may be, and each name stands once -/
def allE:List ByteArray → List En → Bool
 | _,[] => true
 | met,x :: l => rightE x && (!hasNm met x.name && allE (met ++ [x.name]) l)
def errE (l:List En):Nat:=if 64 < l.length then 4 else if allE [] l = true then 0 else 1
theorem allE_bad {met:List ByteArray} {l:List En} {k:Nat} (hk:k < l.length) (h:rightE (l.getD k default) = false ∨ (l.getD k default).name ∈ met ++ (l.take k).map En.name):allE met l = false:=by
 induction l generalizing met k with
 | nil => simp at hk
 | cons x l ih =>
   cases k with
   | zero =>
     rcases h with h | h
     ·have h:rightE x = false:=h
      simp [allE,h]
     ·have h:hasNm met x.name = true:=hasNm_iff.2 (by simpa using h)
      simp [allE,h]
   | succ k =>
     have:=ih (met:=met ++ [x.name]) (k:=k) (by simpa using hk) (by simpa [List.append_assoc] using h)
     simp [allE,this]
theorem allE_good {met:List ByteArray} {l:List En} (h:∀ k,k < l.length → rightE (l.getD k default) = true ∧ (l.getD k default).name ∉ met ++ (l.take k).map En.name):allE met l = true:=by
 induction l generalizing met with
 | nil => rfl
 | cons x l ih =>
   have h0:=h 0 (by simp)
   have h1:rightE x = true:=h0.1
   have h2:hasNm met x.name = false:=by
    apply Bool.eq_false_iff.2
    intro q
    have:x.name ∉ met:=by simpa using h0.2
    exact this (hasNm_iff.1 q)
   have:=ih (met:=met ++ [x.name]) fun k hk => by
    have:=h (k + 1) (by simpa using hk)
    simpa [List.append_assoc] using this
   simp [allE,h1,h2,this]
theorem allE_has {met:List ByteArray} {l:List En} (h:allE met l = true):∀ x ∈ l,rightE x = true:=by
 induction l generalizing met with
 | nil => simp
 | cons x l ih =>
   simp only [allE,Bool.and_eq_true] at h
   intro y hy
   rcases List.mem_cons.1 hy with rfl | hy
   ·exact h.1
   ·exact ih h.2.2 y hy
/-! ### bytes -/
def cellB (c:Ce):List UInt8:=if c.kind.toNat = 1 then Var.put (zig c.n.toInt) else if c.kind.toNat = 2 then Var.put c.n.toInt.toNat else tx c.s
def statB (s:St):List UInt8 :=
 Var.put s.nulls.toInt.toNat ++ (if s.som = false then Var.put 0 else if s.high = true then Var.put 3 ++ (Var.put s.mn.kind.toNat ++ (cellB s.mn ++ cellB s.mx)) else Var.put 1 ++ (Var.put s.mn.kind.toNat ++ cellB s.mn))
def statsB (l:List St):List UInt8:=l.flatMap statB
def flagN (b:Bool):Nat:=if b = true then 1 else 0
def entB (x:En):List UInt8:=tx x.name ++ (Var.put (flagN x.keys) ++ (Var.put x.seq.toNat ++ (Var.put x.rows.toInt.toNat ++ (Var.put x.sch.toNat ++ (Var.put x.stats.length ++ statsB x.stats)))))
def entsB (l:List En):List UInt8:=l.flatMap entB
def mf1:List UInt8:=[77,70,49]
def wrE (l:List En):List UInt8:=mf1 ++ Var.put l.length ++ entsB l
def wrES (l:List En):List UInt8:=seal_ (wrE l)
/-! ### what holds of those that may be -/
theorem cell_has {c:Cl} (h1:cellErr c = 0):c.kind.toNat ≤ 3 ∧ c.s.size ≤ 64 ∧ (c.kind.toNat ≠ 3 → c.s.size = 0) ∧ (c.kind.toNat ≠ 1 → c.kind.toNat ≠ 2 → c.n = 0) ∧ (c.kind.toNat = 2 → c.n = 0 ∨ c.n = 1):=by
 unfold cellErr at h1
 have e:=emp_size c.s
 split at h1
 ·omega
 split at h1
 ·omega
 split at h1
 ·omega
 ·rename_i a b d
  rw [e] at b
  simp only [decide_eq_false_iff_not] at b
  refine ⟨by omega,by omega,fun q => ?_,fun q r => ?_,fun q => ?_⟩
  ·apply Decidable.of_not_not
   intro p
   exact b (.inl ⟨q,p⟩)
  ·apply Decidable.of_not_not
   intro p
   exact b (.inr (.inl ⟨q,r,p⟩))
  ·apply Decidable.of_not_not
   intro p
   exact b (.inr (.inr ⟨q,fun r => p (.inl r),fun r => p (.inr r)⟩))
theorem bnd_has {c:Ce} (h:bndOk c = true):c.kind.toNat ≤ 3 ∧ c.kind.toNat ≠ 0 ∧ c.s.size ≤ 64 ∧ (c.kind.toNat ≠ 3 → c.s.size = 0) ∧ (c.kind.toNat = 3 → c.n.toInt = 0) ∧ (c.kind.toNat = 2 → c.n.toInt = 0 ∨ c.n.toInt = 1):=by
 unfold bndOk at h
 simp only [Bool.and_eq_true,decide_eq_true_eq,Bool.not_eq_true',decide_eq_false_iff_not] at h
 obtain ⟨a,b,d,e,f⟩:=cell_has h.1
 exact ⟨a,h.2,b,d,fun q => e (by show c.kind.toNat ≠ 1;omega) (by show c.kind.toNat ≠ 2;omega),f⟩
theorem txE_le (s:ByteArray) (h:s.size ≤ 64):(tx s).length ≤ 74:=by
 have e1:=Var.put_le10 (n:=s.size) (by omega)
 have a4:s.data.toList.length = s.size:=by rw [Array.length_toList];rfl
 unfold tx
 rw [List.length_append]
 omega
theorem cellB_le {c:Ce} (h:bndOk c = true):(cellB c).length ≤ 74:=by
 obtain ⟨h1,h2,h3,h4,h5,h6⟩:=bnd_has h
 unfold cellB
 split
 ·have:=Var.put_le10 (n:=zig c.n.toInt) (zig_lt (Int64.le_toInt c.n) (by have:=Int64.toInt_lt c.n;omega))
  omega
 split
 ·rename_i q
  have:=Var.put_le10 (n:=c.n.toInt.toNat) (by rcases h6 q with r | r <;> rw [r] <;> decide)
  omega
 ·exact txE_le _ h3
theorem stat_has {s:St} (h:statOk s = true):0 ≤ s.nulls.toInt ∧ s.nulls.toInt ≤ s.rows.toInt ∧ s.rows.toInt ≤ 256 ∧ (s.som = true → bndOk s.mn = true ∧ (s.high = true → bndOk s.mx = true ∧ s.mn.kind.toNat = s.mx.kind.toNat)):=by
 unfold statOk at h
 simp only [Bool.and_eq_true,decide_eq_true_eq] at h
 obtain ⟨h1,h2,h3,h4⟩:=h
 refine ⟨h1,h3,h2,fun q => ?_⟩
 rw [if_pos q] at h4
 simp only [Bool.and_eq_true,decide_eq_true_eq] at h4
 refine ⟨h4.2.1,fun r => ?_⟩
 have h5:=h4.2.2
 rw [if_pos r] at h5
 simpa only [Bool.and_eq_true,decide_eq_true_eq] using h5
theorem statB_le {s:St} (h:statOk s = true):(statB s).length ≤ 178:=by
 obtain ⟨h1,h2,h3,h4⟩:=stat_has h
 have e1:=Var.put_le10 (n:=s.nulls.toInt.toNat) (by omega)
 have e2:=Var.put_le10 (n:=s.mn.kind.toNat) (by have:=s.mn.kind.toNat_lt;omega)
 have p0:=Var.put_le10 (n:=0) (by omega)
 have p1:=Var.put_le10 (n:=1) (by omega)
 have p3:=Var.put_le10 (n:=3) (by omega)
 unfold statB
 rw [List.length_append]
 split
 ·omega
 ·rename_i q
  obtain ⟨b1,b2⟩:=h4 (by simpa using q)
  have c1:=cellB_le b1
  split
  ·rename_i r
   have c2:=cellB_le (b2 r).1
   simp only [List.length_append]
   omega
  ·simp only [List.length_append]
   omega
theorem pathE_le {s:ByteArray} (h:pathOk s = true):1 ≤ s.size ∧ s.size ≤ 24:=by
 unfold pathOk at h
 simp only [Bool.and_eq_true,decide_eq_true_eq] at h
 exact h.1
theorem right_hasE {x:En} (h:rightE x = true):pathOk x.name = true ∧ x.seq.toNat ≤ 1073741824 ∧ 0 ≤ x.rows.toInt ∧ x.rows.toInt ≤ 256 ∧ 1 ≤ x.stats.length ∧ x.stats.length ≤ 8 ∧ ∀ s ∈ x.stats,s.rows.toInt = x.rows.toInt ∧ statOk s = true:=by
 unfold rightE at h
 simp only [Bool.and_eq_true,decide_eq_true_eq] at h
 obtain ⟨h1,h2,h3,h4,h5,h6,h7,_⟩:=h
 refine ⟨h1,h2,h3,h4,h5,h6,fun s hs => ?_⟩
 have:=List.all_eq_true.1 h7 s hs
 simpa only [Bool.and_eq_true,decide_eq_true_eq] using this
theorem entB_le {x:En} (h:rightE x = true):(entB x).length ≤ 1550:=by
 obtain ⟨h1,h2,h3,h4,h5,h6,h7⟩:=right_hasE h
 have a:=pathE_le h1
 have e1:=txE_le x.name (by omega)
 have e2:=Var.put_le10 (n:=flagN x.keys) (by unfold flagN;split <;> omega)
 have e3:=Var.put_le10 (n:=x.seq.toNat) (by omega)
 have e4:=Var.put_le10 (n:=x.rows.toInt.toNat) (by omega)
 have e5:=Var.put_le10 (n:=x.sch.toNat) (by have:=x.sch.toNat_lt;omega)
 have e6:=Var.put_le10 (n:=x.stats.length) (by omega)
 have e7:(statsB x.stats).length ≤ x.stats.length * 178:=flat_le fun s hs => statB_le (h7 s hs).2
 have:x.stats.length * 178 ≤ 8 * 178:=Nat.mul_le_mul_right _ h6
 unfold entB
 simp only [List.length_append]
 omega
theorem wrE_le {l:List En} (h:∀ x ∈ l,rightE x = true) (hl:l.length ≤ 64):(wrE l).length ≤ 99300:=by
 have e1:=Var.put_le10 (n:=l.length) (by omega)
 have e2:(entsB l).length ≤ l.length * 1550:=flat_le fun x hx => entB_le (h x hx)
 have:l.length * 1550 ≤ 64 * 1550:=Nat.mul_le_mul_right _ hl
 unfold wrE
 simp only [List.length_append]
 have:mf1.length = 3:=rfl
 omega
end Go.Proofs.YtpfofefecamkfaaGreatDoor
