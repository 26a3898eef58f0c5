/- WHAT SERVES THE TABLES' STATEMENTS, part 0: D1, D2, D3, D6, D7, MetaOP, EnC, EnQ, EnG, FrameE, EnLO, ObIt, ObV, MetaOL. No statement of the seat is proved here. -/
import Derived.Test.YtpfofefecamkfaaGreatDoorG13
import Derived.Still
import Derived.StillTail
import Derived.Deep.LoopGhost
import Derived.Lib.SliceRun
import Derived.Shelf.Abstract
import Derived.Laws.ResultCell
import Derived.Deep.OwnRows
import Derived.Deep.CutRange
import Derived.Deep.RegionWith
import Derived.Deep.RegionHeld3
import Init.Data.List.Lemmas
import Derived.ProofKit
import Derived.OpenShut
import Derived.ShutString
import Derived.ChangeOld
import Derived.SizedLaws
import Derived.Below
import Derived.Deep.Slices
import Derived.Deep.Fields
import Derived.ChangeSame
import Derived.Lib.SmallJoins
import Derived.Deep.Strs
import Derived.Lib.AppendStr
import Init.Data.BitVec.Lemmas
import Derived.Test.YtpfofefecamkfaaGreatDoorGIt
namespace Go.Proofs.YtpfofefecamkfaaGreatDoor
open Go.RowKit
set_option maxRecDepth 100000

section
section
open Go.RowKit

section
variable {P:Program} {ops:Array Oper} {md:Region.Mode} {E:World → World → Prop} {w0:World}

/-! ### From what is known to the frame -/
/-! ### Whatever order is picked -/
/-! ### Of a head, with a tail in one order -/
/-! ### The steps of the walk -/
section
variable {Q:List Slot → Prop} {o:Oper} {rest:List Oper} {ss:List Slot}

end

/-! ### At the end: the frame written out -/
end

/-! ### The growth in use: what was there is as it was -/
end


















/-! ### texts -/
/-! ### a row that does not lie in a box -/
/-! ### what holds at each round -/

/-! ### rows that are alike -/

section
namespace Var

theorem val_put (n:Nat):val (put n) = n:=by
 induction n using Nat.strongRecOn with
 | _ n ih =>
   by_cases h:n < 128
   ·rw [put_lt h];simp only [val];rw [toNat_ofNat_lt (by omega)];omega
   ·rw [put_ge (by omega)];simp only [val];rw [toNat_ofNat_lt (by omega),ih _ (by omega)];omega
theorem lead_put (n:Nat):∀ rest,lead (put n ++ rest) = (put n).length - 1:=by
 induction n using Nat.strongRecOn with
 | _ n ih =>
   intro rest
   by_cases h:n < 128
   ·rw [put_lt h]
    simp only [List.cons_append,List.nil_append,lead]
    rw [if_pos (by rw [toNat_ofNat_lt (by omega)];exact h)]
    simp
   ·rw [put_ge (by omega)]
    simp only [List.cons_append,lead]
    rw [if_neg (by rw [toNat_ofNat_lt (by omega)];omega),ih _ (by omega)]
    have:=put_pos (n / 128)
    simp;omega

/-- the last byte of a number -/
theorem put_last (n:Nat):∀ rest,((put n ++ rest).getD ((put n).length - 1) 0).toNat = 0 → n = 0:=by
 induction n using Nat.strongRecOn with
 | _ n ih =>
   intro rest
   by_cases h:n < 128
   ·rw [put_lt h]
    simp only [List.cons_append,List.nil_append,List.length_cons,List.length_nil,Nat.zero_add,Nat.sub_self,List.getD_cons_zero]
    rw [toNat_ofNat_lt (by omega)]
    exact id
   ·rw [put_ge (by omega)]
    have hp:=put_pos (n / 128)
    intro hz
    have:(UInt8.ofNat (n % 128 + 128) :: put (n / 128)).length - 1 = ((put (n / 128)).length - 1) + 1:=by simp;omega
    rw [this,List.cons_append,List.getD_cons_succ] at hz
    have:=ih (n / 128) (by omega) rest hz
    omega
/-- the tenth byte is 0 or 1 -/
theorem put_tenth (k:Nat):∀ (n:Nat) (rest:List UInt8),n < 2 * 128 ^ k → (put n).length = k + 1 → ((put n ++ rest).getD ((put n).length - 1) 0).toNat ≤ 1:=by
 induction k with
 | zero =>
   intro n rest h hl
   have h2:n < 2:=by simpa using h
   rw [put_lt (by omega)]
   simp only [List.cons_append,List.nil_append,List.length_cons,List.length_nil,Nat.zero_add,Nat.sub_self,List.getD_cons_zero]
   rw [toNat_ofNat_lt (by omega)]
   omega
 | succ k ih =>
   intro n rest h hl
   by_cases h1:n < 128
   ·rw [put_lt h1] at hl;simp at hl
   ·rw [put_ge (by omega)] at hl ⊢
    have hl':(put (n / 128)).length = k + 1:=by simpa using hl
    have:(UInt8.ofNat (n % 128 + 128) :: put (n / 128)).length - 1 = ((put (n / 128)).length - 1) + 1:=by simp;omega
    rw [this,List.cons_append,List.getD_cons_succ]
    exact ih (n / 128) rest (by rw [Nat.div_lt_iff_lt_mul (by omega)];rw [Nat.pow_succ] at h;omega) hl'

theorem get_put {n:Nat} (h:n < 18446744073709551616) (rest:List UInt8):get (put n ++ rest) = (n,(put n).length,0):=by
 have hp:=put_pos n
 have hle:=put_le10 h
 have hl:=lead_put n rest
 rw [get_eq,hl]
 rw [if_neg (by omega),if_neg (by simp;omega)]
 have hcond:¬ (((put n).length - 1 = 9 ∧ 1 < ((put n ++ rest).getD ((put n).length - 1) 0).toNat) ∨ (((put n ++ rest).getD ((put n).length - 1) 0).toNat = 0 ∧ 0 < (put n).length - 1)):=by
  rintro (⟨h9,h1⟩ | ⟨h0,h1⟩)
  ·have:=put_tenth 9 n rest (by omega) (by omega)
   omega
  ·have:=put_last n rest h0
   subst this
   simp [put_lt] at h1
 rw [if_neg hcond]
 have e:(put n).length - 1 + 1 = (put n).length:=by omega
 rw [e,List.take_left,val_put]

end Var
end


end

section



/-! ### all but one block is as it was -/
/-! ### a cut of bytes -/
/-! ### a reader's box -/
/-! ### plain: numbers, texts, fields -/


/-! ### what Unpack and the document's Schema give -/
/-! ### what holds at each round -/

section
open Go.RowKit

/-! ### the first place -/

/-! ### rows of structs -/
/-! ### snapshots, schemas -/
section
variable {w w':World} {B B' sc nc:Nat} {sA nA:Option Addr} {ss:List Sl} {ns:List Nl}
end
end


/-- what is not great -/
def Small (l:List Fd):Prop:=l.length ≤ 100 ∧ ∀ j,j < l.length → (l.getD j default).name.size < 5000
set_option maxHeartbeats 1000000 in
theorem refGreat (w:World) (id:UInt32) (n c:Nat) (A:Option Addr) (l:List Fd) (hr:Rd w w.heap.size 4 A n c (fdsV l)) :
 Calls Tryz.prog 49 #[.agg #[.int .u32 (id.toNat:Int),.slice A n c]] w fun e w' => ∃ g,e = .returned (.bool g) ∧ (g = false → Small l) ∧ Below w.heap.size w w':=by
 obtain rfl:=hr.lenF
 have hmax:l.length ≤ 9223372036854775807:=by have h1:=hr.le;have h2:=hr.cap;unfold maxLen at h2;omega
 go_enter Tryz.func49,Tryz.ntmps49
 go_wp2_with fail
 have x1:=box_new w #[.int .u32 (id.toNat:Int),.slice A l.length c] 33
 generalize hwa:w.alloc (.cells #[.int .u32 (id.toNat:Int),.slice A l.length c] 33) = w1 at *
 obtain ⟨cs,_,zs,hb1⟩:=x1.lift (Below.refl _ _)
 have s1:w1.cell? ⟨w.heap.size,1,none⟩ = some (.slice A l.length c):=cs 1 _ rfl
 have hr1:=(hr.below hb1).more hb1.size
 clear hwa cs x1 hr
 go_loopw [3,4] (fun nv iv wr => ∃ (k N:Nat),k ≤ l.length ∧ k ≤ 100 ∧ N < 10000 ∧ nv = .int .i64 (N:Int) ∧ iv = .int .i64 (k:Int) ∧ Hid (∀ j,j < k → (l.getD j default).name.size < 5000 ∨ 5000 ≤ N) ∧ w1 = wr) (fun _ iv _ => l.length - (intOf iv).toNat)
 case atStart => exact ⟨0,0,Nat.zero_le _,by omega,by omega,rfl,rfl,hide (fun j h => by omega),rfl⟩
 case round =>
  obtain ⟨k,N,hk,hk2,hN,rfl,rfl,hf,rfl⟩:=hrel
  by_cases hgo:k < l.length ∧ k < 100 ∧ N < 5000
  ·obtain ⟨h1,h2,h3⟩:=hgo
   have y2:decide ((k:Int) < 100) = true:=decide_eq_true (by omega)
   have y3:decide ((N:Int) < 5000) = true:=decide_eq_true (by omega)
   obtain ⟨b,off,rfl,hb,_,q1,_,_⟩:=hr1.fd h1
   generalize hnm:(l.getD k default).name = nm at *
   have HNM:=hide hnm
   clear hnm
   obtain ⟨s,hs⟩:∃ s,s = min nm.size 5000:=⟨_,rfl⟩
   have hs1:min (nm.size:Int) 5000 = (s:Int):=by omega
   have hs2:s ≤ 5000:=by omega
   have HS:=hide hs
   clear hs
   go_wp2_with fail
   go_roundw
   case rel =>
    refine ⟨k + 1,N + s,h1,by omega,by omega,by go_num,by go_num,hide (fun j hj => ?_),trivial⟩
    by_cases e:j = k
    ·rw [e,HNM.out];have:=HS.out;omega
    ·rcases hf.out j (by omega) with q | q
     ·exact .inl q
     ·exact .inr (by omega)
   case measure => exact meas_sub k _ h1
  ·by_cases h1:k < l.length
   ·by_cases h2:k < 100
    ·have h3:5000 ≤ N:=by omega
     have y2:decide ((k:Int) < 100) = true:=decide_eq_true (by omega)
     have y3:decide ((N:Int) < 5000) = false:=decide_eq_false (by omega)
     have y4:decide ((5000:Int) ≤ (N:Int)) = true:=decide_eq_true (by omega)
     by_cases h4:100 < l.length
     ·have y5:decide ((100:Int) < (l.length:Int)) = true:=decide_eq_true (by omega)
      go_wp2_with fail
      go_ret
      exact ⟨_,rfl,(fun h => by cases h),hb1⟩
     ·have y5:decide ((100:Int) < (l.length:Int)) = false:=decide_eq_false (by omega)
      go_wp2_with fail
      go_ret
      exact ⟨_,rfl,(fun h => by cases h),hb1⟩
    ·have y2:decide ((k:Int) < 100) = false:=decide_eq_false (by omega)
     have y5:decide ((100:Int) < (l.length:Int)) = true:=decide_eq_true (by omega)
     go_wp2_with fail
     go_ret
     exact ⟨_,rfl,(fun h => by cases h),hb1⟩
   ·obtain rfl:k = l.length:=by omega
    have y5:decide ((100:Int) < (l.length:Int)) = false:=decide_eq_false (by omega)
    by_cases h3:5000 ≤ N
    ·have y4:decide ((5000:Int) ≤ (N:Int)) = true:=decide_eq_true (by omega)
     go_wp2_with fail
     go_ret
     exact ⟨_,rfl,(fun h => by cases h),hb1⟩
    ·have y4:decide ((5000:Int) ≤ (N:Int)) = false:=decide_eq_false (by omega)
     have hsm:=hide (show Small l from ⟨hk2,fun j hj => (hf.out j hj).resolve_right h3⟩)
     go_wp2_with fail
     go_ret
     exact ⟨_,rfl,(fun _ => hsm.out),hb1⟩








/-! ### a snapshot as a value of its own -/
end

section

/-- two lists of texts: the same? -/
def txEq (l1 l2:List ByteArray):Bool:=decide (l1.length = l2.length) && (List.range l1.length).all fun j => (l1.getD j default).toList == (l2.getD j default).toList
set_option maxHeartbeats 2000000 in
theorem refTexts (w:World) (B n1 c1 n2 c2:Nat) (A1 A2:Option Addr) (l1 l2:List ByteArray) (hr1:Rd w B 1 A1 n1 c1 (strsV l1)) (hr2:Rd w B 1 A2 n2 c2 (strsV l2)) (hB:B ≤ w.heap.size) :
 Calls Tryz.prog 20 #[.slice A1 n1 c1,.slice A2 n2 c2] w fun e w' => e = .returned (.bool (txEq l1 l2)) ∧ Below w.heap.size w w':=by
 obtain rfl:=hr1.lenT
 obtain rfl:=hr2.lenT
 have hmax:l1.length ≤ 9223372036854775807:=by have h1:=hr1.le;have h2:=hr1.cap;unfold maxLen at h2;omega
 have hr1:=hr1.more hB
 have hr2:=hr2.more hB
 by_cases g2:l1.length = l2.length
 ·have y2:((l1.length:Int) != (l2.length:Int)) = false:=by rw [bne_eq_false_iff_eq];omega
  have hs:txEq l1 l2 = (List.range l1.length).all fun j => (l1.getD j default).toList == (l2.getD j default).toList:=by
   unfold txEq
   rw [decide_eq_true g2,Bool.true_and]
  rw [hs]
  have HG:=hide g2
  clear g2 hs
  go_enter Tryz.func20,Tryz.ntmps20
  go_wp2_with fail
  go_loopw [5] (fun iv wr => ∃ k:Nat,k ≤ l1.length ∧ iv = .int .i64 (k:Int) ∧ Hid (∀ j,j < k → ((l1.getD j default).toList == (l2.getD j default).toList) = true) ∧ Below w.heap.size w wr) (fun iv _ => l1.length - (intOf iv).toNat)
  case atStart => exact ⟨0,Nat.zero_le _,rfl,hide (fun j h => by omega),Below.refl _ _⟩
  case round =>
   obtain ⟨k,hk,rfl,hf,hbr⟩:=hrel
   by_cases hlt:k < l1.length
   ·have hlt2:k < l2.length:=by have:=HG.out;omega
    obtain ⟨b1,o1,rfl,hbb1,p0⟩:=(hr1.below hbr).st hlt
    obtain ⟨b2,o2,rfl,hbb2,q0⟩:=(hr2.below hbr).st hlt2
    generalize hff:l1.getD k default = f at *
    generalize hgg:l2.getD k default = f2 at *
    have HF:=hide (And.intro hff hgg)
    clear hff hgg
    cases hq:f.toList == f2.toList with
    | true =>
      have HQ:=hide hq
      go_wp2_with fail
      go_quiet (fail)
      go_wp2_with fail
      go_roundw
      case rel =>
       refine ⟨k + 1,hlt,by go_num,hide (fun j hj => ?_),below_dN hbr _⟩
       by_cases e:j = k
       ·rw [e,HF.out.1,HF.out.2];exact HQ.out
       ·exact hf.out j (by omega)
      case measure => simp [intOf];omega
    | false =>
      have hall:Hid (((List.range l1.length).all fun j => (l1.getD j default).toList == (l2.getD j default).toList) = false):=hide (range_bad hlt (by rw [HF.out.1,HF.out.2,hq]))
      go_wp2_with fail
      go_quiet (fail)
      go_wp2_with fail
      go_ret
      exact ⟨by rw [hall.out];rfl,below_dN hbr _⟩
   ·obtain rfl:k = l1.length:=by omega
    have hall:Hid (((List.range l1.length).all fun j => (l1.getD j default).toList == (l2.getD j default).toList) = true):=hide (range_good hf.out)
    go_wp2_with fail
    go_ret
    exact ⟨by rw [hall.out];rfl,hbr⟩
 ·have y2:((l1.length:Int) != (l2.length:Int)) = true:=by rw [bne_iff_ne];omega
  have hs:txEq l1 l2 = false:=by unfold txEq;rw [decide_eq_false g2];rfl
  rw [hs]
  clear g2 hs
  go_enter Tryz.func20,Tryz.ntmps20
  go_wp2_with fail
  go_ret
  exact ⟨rfl,Below.refl _ _⟩






/-! ### words for regions -/
/-! ### a table as a value -/





section
end
end

section


section
open Go.RowKit

section
variable {w w':World} {b:Nat} {sA:Option Addr} {sc:Nat} {ss:List Sl} {nA:Option Addr} {nc:Nat} {ns:List Nl} {cu:Nat}
end
end

section
open Go.ChangeShapes Go.WideShapes Go.ChangeAt Go.RowKit
open Go.ChangeMaps (open_string shut_string)

end

section
open Go.ChangeShapes Go.WideShapes Go.ChangeAt Go.RowKit Go.Deep Go.Joins

end

section
open Go.ChangeShapes Go.WideShapes Go.ChangeAt Go.RowKit Go.Deep Go.Joins

end

section
open Go.ChangeShapes Go.WideShapes Go.ChangeAt Go.RowKit Go.Deep Go.Joins

end

section
open Go.ChangeShapes Go.WideShapes Go.ChangeAt Go.RowKit Go.Deep Go.Joins

end



section
theorem packFs_cons (f:Fd) (l:List Fd):packFs (f :: l) = packF f ++ packFs l:=rfl
theorem num_put {most n:Nat} (h:n ≤ most) (hm:most < 18446744073709551616) (rest:List UInt8):num most (Var.put n ++ rest) 0 = (n,rest,0):=by
 have hg:=Var.get_put (n:=n) (by omega) rest
 rw [num_0 (by rw [hg]) (by rw [hg];omega),hg]
 simp
theorem put_bit (b:Bool):[if b then (1:UInt8) else 0] = Var.put (if b then 1 else 0):=by
 cases b
 ·rw [if_neg (by simp),if_neg (by simp),Var.put_lt (by omega)];rfl
 ·rw [if_pos rfl,if_pos rfl,Var.put_lt (by omega)];rfl
theorem rdF_pack (f:Fd) (h:f.name.size ≤ 16) (rest:List UInt8):rdF (packF f ++ rest) 0 = (f,rest,0):=by
 have hid:=f.id.toNat_lt
 have hkd:=f.kind.toNat_lt
 have e1:packF f ++ rest = Var.put f.id.toNat ++ (Var.put f.name.size ++ (f.name.data.toList ++ (Var.put f.kind.toNat ++ (Var.put (if f.need then 1 else 0) ++ rest)))):=by
  unfold packF
  rw [put_bit]
  simp only [List.append_assoc]
 have h1:=num_put (most:=4294967295) (n:=f.id.toNat) (by omega) (by decide) (Var.put f.name.size ++ (f.name.data.toList ++ (Var.put f.kind.toNat ++ (Var.put (if f.need then 1 else 0) ++ rest))))
 have h2:=num_put (most:=16) (n:=f.name.size) h (by decide) (f.name.data.toList ++ (Var.put f.kind.toNat ++ (Var.put (if f.need then 1 else 0) ++ rest)))
 have h3:=num_put (most:=255) (n:=f.kind.toNat) (by omega) (by decide) (Var.put (if f.need then 1 else 0) ++ rest)
 have h4:=num_put (most:=1) (n:=if f.need then 1 else 0) (by split <;> omega) (by decide) rest
 have hs:f.name.data.toList.length = f.name.size:=by simp
 obtain ⟨t1,t2,t3⟩:=text_0 (r:=(f.name.size,f.name.data.toList ++ (Var.put f.kind.toNat ++ (Var.put (if f.need then 1 else 0) ++ rest)),0)) rfl (by simp only [List.length_append,hs];omega)
 rw [e1,rdF_of h1 h2 (by rw [t1,t3];simp only [];rw [← hs,List.drop_left];exact h3) h4,t2]
 have hn:(⟨(List.take f.name.size (f.name.data.toList ++ (Var.put f.kind.toNat ++ (Var.put (if f.need then 1 else 0) ++ rest)))).toArray⟩:ByteArray) = f.name:=by
  rw [← hs,List.take_left]
 have hb:decide ((if f.need then 1 else 0) = 1) = f.need:=by cases f.need <;> rfl
 simp only []
 rw [hn,hb]
theorem rdFs_pack:∀ (l acc:List Fd) (rest:List UInt8),(∀ f ∈ l,f.name.size ≤ 16) → rdFs l.length (packFs l ++ rest) 0 acc = (acc ++ l,rest,0)
 | [],acc,rest,_ => by simp [rdFs,packFs]
 | f :: l,acc,rest,h => by
   rw [packFs_cons,List.append_assoc,List.length_cons,rdFs_on,rdF_pack f (h f (by simp))]
   rw [rdFs_pack l _ rest fun g hg => h g (by simp [hg])]
   simp
theorem rdS_pack (id:UInt32) (l:List Fd) (rest:List UInt8) (h8:l.length ≤ 8) (h:∀ f ∈ l,f.name.size ≤ 16):rdS (pack id l ++ rest) 0 = ⟨id,l,rest,check id l⟩:=by
 have hid:=id.toNat_lt
 have h1:=num_put (most:=4294967295) (n:=id.toNat) (by omega) (by decide) (Var.put l.length ++ (packFs l ++ rest))
 have h2:=num_put (most:=8) (n:=l.length) h8 (by decide) (packFs l ++ rest)
 have h3:=rdFs_pack l [] rest h
 have e1:pack id l ++ rest = Var.put id.toNat ++ (Var.put l.length ++ (packFs l ++ rest)):=by unfold pack;simp only [List.append_assoc]
 rw [e1,rdS_of h1.symm h2.symm h3]
 simp
theorem pack_unp {id:UInt32} {l:List Fd} (h:check id l = 0) (rest:List UInt8):rdS (pack id l ++ rest) 0 = ⟨id,l,rest,0⟩:=by
 rw [rdS_pack id l rest (check_len h).2.2 (check_names h),h]
end



section
namespace Crc
/-! ### differences -/
end Crc
end




end

section

theorem seal_length (l:List UInt8):(seal_ l).length = l.length + 4:=by simp [seal_,le4]
theorem open_seal (l:List UInt8):open_ (seal_ l) = some l:=by
 have h1:=seal_length l
 have h2:(seal_ l).take ((seal_ l).length - 4) = l:=by rw [h1,Nat.add_sub_cancel];unfold seal_;exact List.take_left
 unfold open_
 rw [h2,if_pos ⟨by omega,rfl⟩]








end


/-! ### numbers are small -/
namespace Var
end Var
/-! ### a snapshot -/
/-! ### lists of schemas, of snapshots -/
/-! ### Open -/
/-! ### what was written is read -/
theorem mnum_put {n:Nat} (h:n < 18446744073709551616) (rest:List UInt8):mnum (Var.put n ++ rest) false = (n,rest,false):=by
 have hg:=Var.get_put h rest
 rw [mnum_ok (by rw [hg];simp),hg]
 simp
theorem mtext_tx {s:ByteArray} (h:s.size ≤ 64) (rest:List UInt8):mtext (tx s ++ rest) false = (s,rest,false):=by
 have e:tx s ++ rest = Var.put s.size ++ (s.data.toList ++ rest):=by unfold tx;rw [List.append_assoc]
 have hm:=mnum_put (n:=s.size) (by omega) (s.data.toList ++ rest)
 have hs:s.data.toList.length = s.size:=by rw [Array.length_toList];rfl
 unfold mtext
 rw [e,hm,if_neg (by simp only [List.length_append,hs];simp)]
 simp only []
 rw [← hs,List.take_left,List.drop_left]
theorem mtexts_txs:∀ (ms acc:List ByteArray) (rest:List UInt8),(∀ s ∈ ms,s.size ≤ 24) → acc.length + ms.length ≤ 8 → mtexts ms.length (txs ms ++ rest) false acc = (acc ++ ms,rest,false)
 | [],acc,rest,_,_ => by simp [txs,mtexts]
 | s :: ms,acc,rest,h,h8 => by
   have e:txs (s :: ms) ++ rest = tx s ++ (txs ms ++ rest):=by simp [txs]
   rw [List.length_cons] at h8
   rw [e,List.length_cons,mtexts_on,mtext_tx (Nat.le_trans (h s (by simp)) (by decide))]
   have hd:decide (8 < acc.length + 1) = false:=decide_eq_false (by omega)
   simp only [hd,Bool.or_false]
   rw [mtexts_txs ms _ rest (fun x hx => h x (by simp [hx])) (by simp;omega)]
   simp
theorem msnap_snB {p:Sn} (h:namesOk p.ms = true) (rest:List UInt8):msnap (snB p ++ rest) false = (p,rest,false):=by
 obtain ⟨h8,hs⟩:=names_at h
 have n1:=p.id.toNat_lt
 have n2:=p.par.toNat_lt
 have n3:=p.seq.toNat_lt
 have n4:=p.off.toNat_lt
 have n5:=p.tim.toNat_lt
 have n6:=p.sch.toNat_lt
 have e:snB p ++ rest = Var.put p.id.toNat ++ (Var.put p.par.toNat ++ (Var.put p.seq.toNat ++ (Var.put p.off.toNat ++ (Var.put p.tim.toNat ++ (Var.put p.sch.toNat ++ (Var.put p.ms.length ++ (txs p.ms ++ rest))))))):=by
  simp [snB,putAll,nums]
 rw [e]
 have hd:decide (4294967295 < p.sch.toNat) = false:=decide_eq_false (by omega)
 rw [msnap_of (mnum_put (by omega) _) (mnum_put (by omega) _) (mnum_put (by omega) _) (mnum_put (by omega) _) (mnum_put (by omega) _) (mnum_put (by omega) _) (by rw [hd];exact mnum_put (by omega) _) (mtexts_txs p.ms [] rest hs (by simpa using h8))]
 simp only [mk7,UInt64.ofNat_toNat,UInt32.ofNat_toNat,List.nil_append]
theorem oS_packs:∀ (ss acc:List Ps) (rest:List UInt8),(∀ s ∈ ss,check s.1 s.2 = 0) → acc.length + ss.length ≤ 16 → oS ss.length (packs ss ++ rest) false acc = (acc ++ ss,rest,false)
 | [],acc,rest,_,_ => by simp [packs,oS]
 | s :: ss,acc,rest,h,h8 => by
   have e:packs (s :: ss) ++ rest = pack s.1 s.2 ++ (packs ss ++ rest):=by simp [packs]
   rw [List.length_cons] at h8
   have hp:=pack_unp (h s (by simp)) (packs ss ++ rest)
   obtain ⟨q1,q2,q3⟩:=unp_ok hp
   rw [e,List.length_cons,oS_on,q1,q2,q3,hp]
   have hd:decide (16 < acc.length + 1) = false:=decide_eq_false (by omega)
   simp only [hd,Bool.or_false]
   rw [show decide ((0:Nat) ≠ 0) = false from rfl,oS_packs ss _ rest (fun x hx => h x (by simp [hx])) (by simp;omega)]
   simp
theorem oN_snBs:∀ (ns acc:List Sn) (rest:List UInt8),(∀ s ∈ ns,namesOk s.ms = true) → acc.length + ns.length ≤ 32 → oN ns.length (snBs ns ++ rest) false acc = (acc ++ ns,rest,false)
 | [],acc,rest,_,_ => by simp [snBs,oN]
 | s :: ns,acc,rest,h,h8 => by
   have e:snBs (s :: ns) ++ rest = snB s ++ (snBs ns ++ rest):=by simp [snBs]
   rw [List.length_cons] at h8
   rw [e,List.length_cons,oN_on,msnap_snB (h s (by simp))]
   have hd:decide (32 < acc.length + 1) = false:=decide_eq_false (by omega)
   simp only [hd,Bool.or_false]
   rw [oN_snBs ns _ rest (fun x hx => h x (by simp [hx])) (by simp;omega)]
   simp
theorem opn_wr {ss:List Ps} {ns:List Sn} {cur:Nat} (h:rightP ss ns cur = true):opn ((wrT ss ns).drop 3) = (ss,ns,false):=by
 obtain ⟨⟨h1,h2,h3⟩,h4,h5⟩:=right_has h
 have e:(wrT ss ns).drop 3 = Var.put ss.length ++ (packs ss ++ (Var.put ns.length ++ (snBs ns ++ []))):=by
  simp [wrT,wr1,wr0,tf1]
 rw [e]
 have a:=oS_packs ss [] (Var.put ns.length ++ (snBs ns ++ [])) h4 (by simpa using h2)
 have b:=oN_snBs ns [] [] h5 (by simpa using h3)
 rw [List.nil_append] at a b
 exact opn_of (mnum_put (by omega) _) a (mnum_put (by omega) _) b

section
open Go.RowKit

section
variable {w w':World} {B n c:Nat} {A:Option Addr}
theorem Rd.lenSt {l:List St} (h:Rd w B 10 A n c (stsV l)):n = l.length:=h.lenA stV 10 stV_length (by omega)
theorem Rd.lenE2 {l:List El} (h:Rd w B 6 A n c (elsV l)):n = l.length:=h.lenA elV 6 elV_length (by omega)
end
end


namespace Var
end Var
theorem unzig_zig (n:Int):unzig (zig n) = n:=by
 unfold unzig zig;split <;> split <;> omega
/-! ### the reader -/
theorem rsm_put {most n:Nat} (h:n ≤ most) (hm:most < 18446744073709551616) (rest:List UInt8):rsm most (Var.put n ++ rest) false = (n,rest,false):=by
 unfold rsm
 rw [mnum_put (by omega),if_neg (by show ¬ most < n;omega)]
/-! ### what is written is read -/
theorem bytes_none {s:ByteArray} (h:s.size = 0):s = ByteArray.empty:=by
 apply bytes_same
 rw [ByteArray.toList_eq,ByteArray.toList_eq]
 have e:s.data.toList.length = 0:=by rw [Array.length_toList];exact h
 rw [List.eq_nil_of_length_eq_zero e]
 rfl
theorem ce_ext {a b:Ce} (h1:a.kind.toNat = b.kind.toNat) (h2:a.n.toInt = b.n.toInt) (h3:a.s = b.s):a = b:=by
 cases a;cases b
 simp only [Ce.mk.injEq]
 exact ⟨UInt8.toNat_inj.1 h1,Int64.toInt_inj.1 h2,h3⟩
theorem isZ_ceZ {c:Ce} (h:isZ c = true):c = ceZ:=by
 unfold isZ at h
 simp only [Bool.and_eq_true,decide_eq_true_eq] at h
 exact ce_ext h.1 (by rw [h.2.1];rfl) (bytes_none h.2.2)
theorem rcell_cellB {c:Ce} (h:bndOk c = true) (rest:List UInt8):rcell c.kind (cellB c ++ rest) false = (c,rest,false):=by
 obtain ⟨h1,h2,h3,h4,h5,h6⟩:=bnd_has h
 unfold rcell cellB
 by_cases k1:c.kind.toNat = 1
 ·rw [if_pos k1,if_pos k1]
  have hg:=Var.get_put (zig_lt (Int64.le_toInt c.n) (by have:=Int64.toInt_lt c.n;omega)) rest
  rw [if_neg (by rw [hg];simp),hg]
  simp only [unzig_zig,List.drop_left]
  congr 1
  exact ce_ext (by rw [k1];rfl) (by rw [Int64.ofInt_toInt]) (bytes_none (h4 (by omega))).symm
 ·rw [if_neg k1,if_neg k1]
  by_cases k2:c.kind.toNat = 2
  ·rw [if_pos k2,if_pos k2]
   have hn:=h6 k2
   rw [rsm_put (by rcases hn with q | q <;> rw [q] <;> decide) (by decide)]
   simp only []
   congr 1
   exact ce_ext rfl (by rcases hn with q | q <;> rw [q] <;> rfl) (bytes_none (h4 (by omega))).symm
  ·rw [if_neg k2,if_neg k2,mtext_tx h3]
   simp only []
   congr 1
   exact ce_ext rfl (by rw [h5 (by omega)];rfl) rfl
theorem ofNat8E (a:UInt8):UInt8.ofNat a.toNat = a:=UInt8.toNat_inj.1 (by rw [UInt8.toNat_ofNat'];have:=a.toNat_lt;omega)
theorem ofNatInt {a:Int64} (h:0 ≤ a.toInt):Int64.ofNat a.toInt.toNat = a:=Int64.toInt_inj.1 (by
 have:=Int64.toInt_lt a
 rw [Int64.toInt_ofNat_of_lt (by omega)]
 omega)
theorem rstat_statB {s:St} (h:statOk s = true) {rows:Int64} (hr:s.rows.toInt = rows.toInt) (rest:List UInt8):rstat rows (statB s ++ rest) false = (s,rest,false):=by
 obtain ⟨h1,h2,h3,h4⟩:=stat_has h
 obtain rfl:s.rows = rows:=Int64.toInt_inj.1 hr
 unfold statOk at h
 simp only [Bool.and_eq_true,decide_eq_true_eq] at h
 obtain ⟨_,_,_,h5⟩:=h
 unfold rstat statB
 cases s with
 | mk rw nu sm hi mn mx =>
 dsimp only at *
 have e0:Int64.ofNat nu.toInt.toNat = nu:=ofNatInt h1
 cases sm with
 | false =>
   simp only [if_true,List.append_assoc,Bool.false_eq_true,if_false,Bool.and_eq_true,Bool.not_eq_true',decide_eq_true_eq] at h5 ⊢
   rw [rsm_put (by omega) (by decide)]
   simp only []
   rw [rsm_put (by omega) (by decide)]
   simp only [stat2,if_true]
   rw [e0,h5.2.1,isZ_ceZ h5.2.2.1,isZ_ceZ h5.2.2.2]
 | true =>
   obtain ⟨b1,b2⟩:=h4 rfl
   have kk:=(bnd_has b1).1
   cases hi with
   | true =>
     obtain ⟨b3,b4⟩:=b2 rfl
     have b5:mn.kind = mx.kind:=UInt8.toNat_inj.1 b4
     simp only [Bool.true_eq_false,if_false,if_true,List.append_assoc]
     rw [rsm_put (by omega) (by decide)]
     simp only []
     rw [rsm_put (by omega) (by decide)]
     simp only [stat2,if_neg (show ¬ (3:Nat) = 0 by decide),stat3,decide_true,if_true]
     rw [rsm_put (by omega) (by decide)]
     simp only [ofNat8E]
     rw [rcell_cellB b1]
     simp only []
     rw [b5,rcell_cellB b3,e0]
   | false =>
     have h6:=h5
     simp only [if_true,Bool.false_eq_true,if_false,Bool.and_eq_true,decide_eq_true_eq] at h6
     simp only [Bool.true_eq_false,Bool.false_eq_true,if_false,List.append_assoc]
     rw [rsm_put (by omega) (by decide)]
     simp only []
     rw [rsm_put (by omega) (by decide)]
     simp only [stat2,if_neg (show ¬ (1:Nat) = 0 by decide),stat3,show decide ((1:Nat) = 3) = false from rfl,Bool.false_eq_true,if_false]
     rw [rsm_put (by omega) (by decide)]
     simp only [ofNat8E]
     rw [rcell_cellB b1]
     simp only []
     rw [e0,isZ_ceZ h6.2.2]
theorem rstats_statsB {rows:Int64}:∀ (l acc:List St) (rest:List UInt8),(∀ s ∈ l,s.rows.toInt = rows.toInt ∧ statOk s = true) → rstats rows l.length (statsB l ++ rest) false acc = (acc ++ l,rest,false)
 | [],acc,rest,_ => by simp [statsB,rstats]
 | s :: l,acc,rest,h => by
   have e:statsB (s :: l) ++ rest = statB s ++ (statsB l ++ rest):=by simp [statsB]
   have hs:=h s (by simp)
   rw [e,List.length_cons,rstats_on,rstat_statB hs.2 hs.1]
   simp only []
   rw [rstats_statsB l _ rest (fun x hx => h x (by simp [hx]))]
   simp
theorem rentry_entB {x:En} (h:rightE x = true) (rest:List UInt8):rentry (entB x ++ rest) false = (x,rest,false):=by
 obtain ⟨h1,h2,h3,h4,h5,h6,h7⟩:=right_hasE h
 have hp:=pathE_le h1
 have n1:=x.seq.toNat_lt
 have n2:=x.sch.toNat_lt
 have e:entB x ++ rest = tx x.name ++ (Var.put (flagN x.keys) ++ (Var.put x.seq.toNat ++ (Var.put x.rows.toInt.toNat ++ (Var.put x.sch.toNat ++ (Var.put x.stats.length ++ (statsB x.stats ++ rest)))))):=by unfold entB;simp only [List.append_assoc]
 have hh:rhead (entB x ++ rest) false = (⟨x.name,x.keys,x.seq,x.rows,x.sch,x.stats.length⟩,statsB x.stats ++ rest,false):=by
  unfold rhead
  rw [e,mtext_tx (by omega)]
  simp only []
  rw [rsm_put (by unfold flagN;split <;> omega) (by decide)]
  simp only []
  rw [mnum_put (by omega)]
  simp only []
  rw [rsm_put (by omega) (by decide)]
  simp only []
  rw [rsm_put (by omega) (by decide)]
  simp only []
  rw [rsm_put (by omega) (by decide)]
  simp only []
  have ek:decide (flagN x.keys = 1) = x.keys:=by unfold flagN;cases x.keys <;> rfl
  have es:UInt64.ofNat x.seq.toNat = x.seq:=UInt64.ofNat_toNat
  have ec:UInt32.ofNat x.sch.toNat = x.sch:=UInt32.ofNat_toNat
  rw [ek,es,ec,ofNatInt h3]
 unfold rentry
 rw [hh]
 simp only []
 rw [rstats_statsB _ _ _ h7]
 simp
theorem rents_entsB:∀ (l acc:List En) (rest:List UInt8),(∀ x ∈ l,rightE x = true) → rents l.length (entsB l ++ rest) false acc = (acc ++ l,rest,false)
 | [],acc,rest,_ => by simp [entsB,rents]
 | x :: l,acc,rest,h => by
   have e:entsB (x :: l) ++ rest = entB x ++ (entsB l ++ rest):=by simp [entsB]
   rw [e,List.length_cons,rents_on,rentry_entB (h x (by simp))]
   simp only []
   rw [rents_entsB l _ rest (fun y hy => h y (by simp [hy]))]
   simp
/-! ### Open -/
theorem ents_wrE {l:List En} (h:errE l = 0):ents (wrE l) = (l,[],false):=by
 unfold errE at h
 split at h
 ·cases h
 split at h
 ·rename_i h64 hal
  have hall:=allE_has hal
  unfold ents wrE
  have e:(mf1 ++ Var.put l.length ++ entsB l).drop 3 = Var.put l.length ++ entsB l:=by rw [List.append_assoc];rfl
  rw [e,rsm_put (by omega) (by decide)]
  have:=rents_entsB l [] [] hall
  rw [List.append_nil] at this
  exact this
 ·cases h


/-- entries that statements look at -/
def SmE (l:List El):Prop:=l.length ≤ 200 ∧ ∀ x ∈ l,x.p.name.size ≤ 500 ∧ x.p.stats.length ≤ 50
set_option maxHeartbeats 2000000 in
theorem refGreat13 (w:World) (A:Option Addr) (c:Nat) (l:List El) (h:EnR w w.heap.size A c l) :
 Calls Tryz.prog 50 #[.slice A l.length c] w fun e w' => ∃ g,e = .returned (.bool g) ∧ (g = false → SmE l) ∧ Below w.heap.size w w':=by
 have hmax:l.length ≤ 9223372036854775807:=by have h3:=h.row.le;have h4:=h.row.cap;unfold maxLen at h4;omega
 by_cases h2:200 < l.length
 ·have t7:decide ((200:Int) < (l.length:Int)) = true:=decide_eq_true (by omega)
  clear h2
  go_enter Tryz.func50,Tryz.ntmps50
  go_wp2_with fail
  go_ret
  exact ⟨true,rfl,(fun q => by cases q),Below.refl _ _⟩
 have t7:decide ((200:Int) < (l.length:Int)) = false:=decide_eq_false (by omega)
 have H200:Hid (l.length ≤ 200):=hide (by omega)
 clear h2
 go_enter Tryz.func50,Tryz.ntmps50
 go_wp2_with fail
 go_loopw [3] (fun iv wr => ∃ k:Nat,iv = .int .i64 (k:Int) ∧ k ≤ l.length ∧ Hid (∀ j,j < k → (l.getD j default).p.name.size ≤ 500 ∧ (l.getD j default).p.stats.length ≤ 50) ∧ w = wr) (fun iv _ => l.length - (intOf iv).toNat)
 case atStart => exact ⟨0,rfl,Nat.zero_le _,hide (fun j hj => by omega),rfl⟩
 case round =>
  obtain ⟨k,rfl,hk,hf,rfl⟩:=hrel
  by_cases hlt:k < l.length
  ·obtain ⟨gb,off,rfl,hgb,hc⟩:=h.row.elA hlt
   have hin:=h.ins (l.getD k default) (getD_mem hlt)
   obtain ⟨x,hx⟩:∃ x,l.getD k default = x:=⟨_,rfl⟩
   obtain ⟨a0,a1,a2,a3,a4,a5⟩:=hc x hx
   rw [hx] at hin
   have HX:=hide hx
   have hms:x.p.stats.length ≤ 9223372036854775807:=by have h3:=hin.le;have h4:=hin.cap;unfold maxLen at h4;omega
   clear hc hx
   by_cases hn:500 < x.p.name.size
   ·have t20:decide ((500:Int) < (x.p.name.size:Int)) = true:=decide_eq_true (by omega)
    clear hn
    go_wp2_with fail
    go_ret
    exact ⟨true,rfl,(fun q => by cases q),Below.refl _ _⟩
   have t20:decide ((500:Int) < (x.p.name.size:Int)) = false:=decide_eq_false (by omega)
   have HN:Hid (x.p.name.size ≤ 500):=hide (by omega)
   clear hn
   by_cases hs:50 < x.p.stats.length
   ·have t28:decide ((50:Int) < (x.p.stats.length:Int)) = true:=decide_eq_true (by omega)
    clear hs
    go_wp2_with fail
    go_ret
    exact ⟨true,rfl,(fun q => by cases q),Below.refl _ _⟩
   have t28:decide ((50:Int) < (x.p.stats.length:Int)) = false:=decide_eq_false (by omega)
   have HNS:Hid ((l.getD k default).p.name.size ≤ 500 ∧ (l.getD k default).p.stats.length ≤ 50):=hide ⟨by rw [HX.out];exact HN.out,by rw [HX.out];omega⟩
   clear hs
   generalize x.p.stats = sts at *
   generalize x.A = SA at *
   go_wp2_with fail
   go_loopw [4] (fun iv wr => ∃ m:Nat,iv = .int .i64 (m:Int) ∧ m ≤ sts.length ∧ w = wr) (fun iv _ => sts.length - (intOf iv).toNat)
   case atStart => exact ⟨0,rfl,Nat.zero_le _,rfl⟩
   case round =>
    obtain ⟨m,rfl,hm,rfl⟩:=hrel
    by_cases hml:m < sts.length
    ·obtain ⟨sb,so,rfl,hsb,hcs⟩:=hin.stA hml
     obtain ⟨s,hs⟩:∃ s,sts.getD m default = s:=⟨_,rfl⟩
     obtain ⟨_,_,_,_,_,_,b6,_,_,b9⟩:=hcs s hs
     clear hcs hs
     by_cases h6:500 < s.mn.s.size
     ·have t51:decide ((500:Int) < (s.mn.s.size:Int)) = true:=decide_eq_true (by omega)
      clear h6
      go_wp2_with fail
      go_ret
      exact ⟨true,rfl,(fun q => by cases q),Below.refl _ _⟩
     have t51:decide ((500:Int) < (s.mn.s.size:Int)) = false:=decide_eq_false (by omega)
     clear h6
     by_cases h9:500 < s.mx.s.size
     ·have t64:decide ((500:Int) < (s.mx.s.size:Int)) = true:=decide_eq_true (by omega)
      clear h9
      go_wp2_with fail
      go_ret
      exact ⟨true,rfl,(fun q => by cases q),Below.refl _ _⟩
     have t64:decide ((500:Int) < (s.mx.s.size:Int)) = false:=decide_eq_false (by omega)
     clear h9
     go_wp2_with fail
     go_roundw
     case rel => exact ⟨m + 1,by go_num,hml,trivial⟩
     case measure => simp [intOf];omega
    ·go_wp2_with fail
     go_roundw
     case rel =>
      refine ⟨k + 1,by go_num,hlt,hide fun j hj => ?_,trivial⟩
      rcases Nat.lt_or_ge j k with q | q
      ·exact hf.out j q
      ·obtain rfl:j = k:=by omega
       exact HNS.out
     case measure => simp [intOf];omega
  ·go_wp2_with fail
   go_ret
   refine ⟨false,rfl,(fun _ => ⟨H200.out,fun x hx => ?_⟩),Below.refl _ _⟩
   obtain ⟨j,hj,rfl⟩:=List.getElem_of_mem hx
   have:=hf.out j (by omega)
   rw [getD_at _ _ hj] at this
   exact this

section
open Go.ChangeShapes Go.WideShapes Go.ChangeAt Go.RowKit Go.Deep Go.Joins

section
variable {H:Type} {enc:TypeId × Value → H} {w:World} {base:Nat} {spare:Nat → Bool} {held:Bool} {fuel:Nat}
/-- a field of a struct, by its place -/
theorem trod_part {P:Program} {t:TypeId} {fs:Array Field} {cs:List Value} {x:DataW H × List MemPlace} {F:Nat} (ht:P.underlying t = some (.struct fs)) (h:DataW.trod enc P w base spare held F t cs = some x) :
 ∃ n,∀ (i:Nat) (f:Field),fs[i]? = some f → ∃ y,DataW.trod enc P w base spare held n f.type ((cs.drop f.offset).take (P.cellsOf f.type)) = some y:=by
 obtain ⟨ys,n,_,_,_,hyl,hf⟩:=DataW.trod_struct ht h
 refine ⟨n,fun i f hi => ?_⟩
 have h1:=hf i f hi
 have hys:i < ys.length:=by rw [hyl];exact (Array.getElem?_eq_some_iff.1 hi).1
 exact ⟨_,h1.trans (List.getElem?_eq_getElem hys)⟩
theorem listC {α:Type} {cs:List α} (h:cs.length = 3):∃ a b c,cs = [a,b,c]:=by
 match cs,h with
 | [a,b,c],_ => exact ⟨a,b,c,rfl⟩
theorem listE {α:Type} {cs:List α} (h:cs.length = 6):∃ a b c d e f,cs = [a,b,c,d,e,f]:=by
 match cs,h with
 | [a,b,c,d,e,f],_ => exact ⟨a,b,c,d,e,f,rfl⟩
theorem listS {α:Type} {cs:List α} (h:cs.length = 10):∃ a b c d e f g h i j,cs = [a,b,c,d,e,f,g,h,i,j]:=by
 match cs,h with
 | [a,b,c,d,e,f,g,h,i,j],_ => exact ⟨a,b,c,d,e,f,g,h,i,j,rfl⟩
theorem i64Of {a:Int} (h : -9223372036854775808 ≤ a ∧ a ≤ 9223372036854775807):(Int64.ofInt a).toInt = a:=Int64.toInt_ofInt_of_le (by have:=h.1;simpa using this) (by have:=h.2;simp;omega)
theorem open_ce {cs:List Value} {x:DataW H × List MemPlace} (hl:cs.length = 3) (h:DataW.trod enc Tryz.prog w base spare held fuel 199 cs = some x):∃ c:Ce,cs = [.int .u8 (c.kind.toNat:Int),.int .i64 c.n.toInt,.string c.s]:=by
 obtain ⟨n,hf⟩:=trod_at Tryz.underlying199 (by kernel_rfl) h hl
 obtain ⟨c0,c1,c2,rfl⟩:=listC hl
 obtain ⟨y0,h0⟩:=hf 0 _ c0 rfl rfl
 obtain ⟨y1,h1⟩:=hf 1 _ c1 rfl rfl
 obtain ⟨y2,h2⟩:=hf 2 _ c2 rfl rfl
 obtain ⟨a0,e0,_,w0⟩:=DataW.trod_int Tryz.underlying84 h0
 obtain ⟨a1,e1,_,w1⟩:=DataW.trod_int Tryz.underlying2 h1
 obtain ⟨a2,e2,_,_⟩:=DataW.trod_string Tryz.underlying9 h2
 injection e0 with e0
 injection e1 with e1
 injection e2 with e2
 subst e0 e1 e2
 have b0:=bounds_u8 w0
 refine ⟨⟨UInt8.ofNat a0.toNat,Int64.ofInt a1,a2⟩,?_⟩
 have q0:((UInt8.ofNat a0.toNat).toNat:Int) = a0:=by rw [UInt8.toNat_ofNat'];omega
 simp only [q0,i64Of (bounds_i64 w1)]
theorem open_st {cs:List Value} {x:DataW H × List MemPlace} (hl:cs.length = 10) (h:DataW.trod enc Tryz.prog w base spare held fuel 201 cs = some x):∃ s:St,cs = stV s:=by
 obtain ⟨n,hf⟩:=trod_part Tryz.underlying201 h
 obtain ⟨c0,c1,c2,c3,c4,c5,c6,c7,c8,c9,rfl⟩:=listS hl
 obtain ⟨y0,h0⟩:=hf 0 _ rfl
 obtain ⟨y1,h1⟩:=hf 1 _ rfl
 obtain ⟨y2,h2⟩:=hf 2 _ rfl
 obtain ⟨y3,h3⟩:=hf 3 _ rfl
 obtain ⟨y4,h4⟩:=hf 4 _ rfl
 obtain ⟨y5,h5⟩:=hf 5 _ rfl
 have e1c:Tryz.prog.cellsOf 3 = 1:=by kernel_rfl
 have e2c:Tryz.prog.cellsOf 4 = 1:=by kernel_rfl
 have e3c:Tryz.prog.cellsOf 199 = 3:=by kernel_rfl
 replace h0:DataW.trod enc Tryz.prog w base spare held n 3 (([c0,c1,c2,c3,c4,c5,c6,c7,c8,c9].drop 0).take (Tryz.prog.cellsOf 3)) = some y0:=h0
 replace h1:DataW.trod enc Tryz.prog w base spare held n 3 (([c0,c1,c2,c3,c4,c5,c6,c7,c8,c9].drop 1).take (Tryz.prog.cellsOf 3)) = some y1:=h1
 replace h2:DataW.trod enc Tryz.prog w base spare held n 4 (([c0,c1,c2,c3,c4,c5,c6,c7,c8,c9].drop 2).take (Tryz.prog.cellsOf 4)) = some y2:=h2
 replace h3:DataW.trod enc Tryz.prog w base spare held n 4 (([c0,c1,c2,c3,c4,c5,c6,c7,c8,c9].drop 3).take (Tryz.prog.cellsOf 4)) = some y3:=h3
 replace h4:DataW.trod enc Tryz.prog w base spare held n 199 (([c0,c1,c2,c3,c4,c5,c6,c7,c8,c9].drop 4).take (Tryz.prog.cellsOf 199)) = some y4:=h4
 replace h5:DataW.trod enc Tryz.prog w base spare held n 199 (([c0,c1,c2,c3,c4,c5,c6,c7,c8,c9].drop 7).take (Tryz.prog.cellsOf 199)) = some y5:=h5
 simp only [e1c,e2c,e3c,List.drop_zero,List.drop_succ_cons,List.take_succ_cons,List.take_zero] at h0 h1 h2 h3 h4 h5
 obtain ⟨a0,e0,_,w0⟩:=DataW.trod_int Tryz.underlying3 h0
 obtain ⟨a1,e1,_,w1⟩:=DataW.trod_int Tryz.underlying3 h1
 obtain ⟨a2,e2,_⟩:=DataW.trod_bool Tryz.underlying4 h2
 obtain ⟨a3,e3,_⟩:=DataW.trod_bool Tryz.underlying4 h3
 obtain ⟨m1,e4⟩:=open_ce rfl h4
 obtain ⟨m2,e5⟩:=open_ce rfl h5
 simp only [List.cons.injEq,and_true] at e0 e1 e2 e3 e4 e5
 obtain ⟨e4,e41,e42⟩:=e4
 obtain ⟨e5,e51,e52⟩:=e5
 subst e0 e1 e2 e3 e4 e41 e42 e5 e51 e52
 refine ⟨⟨Int64.ofInt a0,Int64.ofInt a1,a2,a3,m1,m2⟩,?_⟩
 simp only [stV,i64Of (bounds_i64 w0),i64Of (bounds_i64 w1)]
theorem cells_st:Tryz.prog.cellsOf 201 = 10:=by kernel_rfl
theorem cells_en:Tryz.prog.cellsOf 97 = 6:=by kernel_rfl
theorem open_en {cs:List Value} {x:DataW H × List MemPlace} (hl:cs.length = 6) (h:DataW.trod enc Tryz.prog w base (fun _ => true) held fuel 97 cs = some x):∃ e:El,cs = elV e ∧ (Rd w w.heap.size 10 e.A e.p.stats.length e.c (stsV e.p.stats) ∧ e.p.name.size ≤ 9223372036854775807):=by
 obtain ⟨n,hf⟩:=trod_at Tryz.underlying97 (by kernel_rfl) h hl
 obtain ⟨c0,c1,c2,c3,c4,c5,rfl⟩:=listE hl
 obtain ⟨y0,h0⟩:=hf 0 _ c0 rfl rfl
 obtain ⟨y1,h1⟩:=hf 1 _ c1 rfl rfl
 obtain ⟨y2,h2⟩:=hf 2 _ c2 rfl rfl
 obtain ⟨y3,h3⟩:=hf 3 _ c3 rfl rfl
 obtain ⟨y4,h4⟩:=hf 4 _ c4 rfl rfl
 obtain ⟨y5,h5⟩:=hf 5 _ c5 rfl rfl
 obtain ⟨a0,e0,_,w0⟩:=DataW.trod_string Tryz.underlying9 h0
 obtain ⟨a1,e1,_⟩:=DataW.trod_bool Tryz.underlying4 h1
 obtain ⟨a2,e2,_,w2⟩:=DataW.trod_int Tryz.underlying35 h2
 obtain ⟨a3,e3,_,w3⟩:=DataW.trod_int Tryz.underlying3 h3
 obtain ⟨a4,e4,_,w4⟩:=DataW.trod_int Tryz.underlying30 h4
 obtain ⟨A,m,c,l,e5,hr,_⟩:=open_rows stV 10 stV_length Tryz.underlying95 cells_st (by omega) (fun _ => True) (fun F cs x hl h => by obtain ⟨s,hs⟩:=open_st hl h;exact ⟨s,hs,trivial⟩) h5
 simp only [List.cons.injEq,and_true] at e0 e1 e2 e3 e4 e5
 subst e0 e1 e2 e3 e4 e5
 obtain rfl:=Rd.lenSt hr
 have b2:=bounds_u64 w2
 have b4:=bounds_u32 w4
 refine ⟨⟨⟨a0,a1,UInt64.ofNat a2.toNat,Int64.ofInt a3,UInt32.ofNat a4.toNat,l⟩,A,c⟩,?_,hr,by unfold maxLen at w0;omega⟩
 have q2:((UInt64.ofNat a2.toNat).toNat:Int) = a2:=by rw [UInt64.toNat_ofNat'];omega
 have q4:((UInt32.ofNat a4.toNat).toNat:Int) = a4:=by rw [UInt32.toNat_ofNat'];omega
 simp only [elV,q2,q4,i64Of (bounds_i64 w3)]
theorem open_ens {cs:List Value} {x:DataW H × List MemPlace} (h:DataW.trod enc Tryz.prog w base (fun _ => true) held fuel 46 cs = some x):∃ (A:Option Addr) (c:Nat) (l:List El),cs = [.slice A l.length c] ∧ EnR w w.heap.size A c l ∧ ∀ x ∈ l,x.p.name.size ≤ 9223372036854775807:=by
 obtain ⟨A,n,c,l,rfl,hr,hi⟩:=open_rows elV 6 elV_length Tryz.underlying46 cells_en (by omega) _ (fun F cs x hl h => open_en hl h) h
 obtain rfl:=Rd.lenE2 hr
 exact ⟨A,c,l,rfl,⟨hr,fun x hx => (hi x hx).1⟩,fun x hx => (hi x hx).2⟩
end
end





/-- an op of the law's -/
structure Opn where
 kind:UInt8
 nm:ByteArray
 old:ByteArray
 bs:List UInt8
 bA:Option Addr
 bc:Nat
 n:Int
 keep:List Int
 kA:Option Addr
 kc:Nat
instance:Inhabited Opn:=⟨⟨0,ByteArray.empty,ByteArray.empty,[],none,0,0,[],none,0⟩⟩


end Go.Proofs.YtpfofefecamkfaaGreatDoor
