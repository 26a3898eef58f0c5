/- WHAT SERVES THE TABLES' STATEMENTS, part 5: D5, D6, MetaWP. No statement of the seat is proved here. -/
import Derived.Test.YtpfofefecamkfaaGreatDoorG4
import Derived.Deep.CutRange
import Derived.ProofKit
import Derived.OpenShut
import Derived.ShutString
import Derived.ChangeOld
import Derived.SizedLaws
import Derived.Below
import Derived.Deep.Slices
import Derived.Deep.Fields
import Derived.ChangeSame
import Derived.Lib.SmallJoins
import Derived.Deep.Strs
import Derived.Lib.AppendStr
import Init.Data.BitVec.Lemmas
import Derived.Lib.SlBytesConst
import Derived.ArgAppend
namespace Go.Proofs.YtpfofefecamkfaaGreatDoor
open Go.RowKit
set_option maxRecDepth 100000

section

def hasId (ns:List Sn) (id:UInt64):Bool:=ns.any fun s => (s.id.toNat:Int) == (id.toNat:Int)
def isIn (ids:List UInt64) (x:UInt64):Bool:=ids.any fun y => (x.toNat:Int) == (y.toNat:Int)
def dropErr (ns:List Sn) (cur:UInt64) (ids:List UInt64):Nat:=if ids.all (hasId ns) = true then (if isIn ids cur = true then 1 else 0) else 2
theorem hasId_ix (ns:List Nl) (id:UInt64):decide ((0:Int) ≤ sIx ns id) = hasId (ns.map plN) id:=by
 unfold sIx hasId
 rw [ixA_ge,List.any_map]
 rfl
theorem drop_none {ns:List Sn} {cur:UInt64} {ids:List UInt64} {k:Nat} (hk:k < ids.length) (h:hasId ns (ids.getD k default) = false):dropErr ns cur ids = 2:=by
 unfold dropErr
 rw [if_neg]
 intro q
 have:=List.all_eq_true.1 q (ids.getD k default) (by simp [List.getD,hk])
 rw [h] at this
 cases this
theorem drop_all {ns:List Sn} {ids:List UInt64} (h:∀ j,j < ids.length → hasId ns (ids.getD j default) = true):ids.all (hasId ns) = true:=by
 refine List.all_eq_true.2 fun x hx => ?_
 obtain ⟨j,hj,rfl⟩:=List.mem_iff_getElem.1 hx
 have:=h j hj
 simpa [List.getD,hj] using this
set_option maxHeartbeats 4000000 in
theorem metaDropBad (w:World) (sA:Option Addr) (sc:Nat) (ss:List Sl) (nA:Option Addr) (nc:Nat) (ns:List Nl) (cur:UInt64) (hT:TabR w w.heap.size sA sc ss nA nc ns) (h3:ns.length ≤ 1000000) (h4:∀ s ∈ ns,s.p.ms.length ≤ 1000000)
 (ids:List UInt64) (iA:Option Addr) (ic:Nat) (hri:Rd w w.heap.size 1 iA ids.length ic (u64sV ids)) (hi:ids.length ≤ 1000000) (hbad:dropErr (ns.map plN) cur ids ≠ 0) :
 Calls Tryz.prog 39 #[.agg #[.slice sA ss.length sc,.slice nA ns.length nc,.int .u64 (cur.toNat:Int)],.slice iA ids.length ic] w (StepEnd w (dropErr (ns.map plN) cur ids) [] [] 0):=by
 obtain ⟨P',hP'⟩:∃ P',P' = StepEnd w (dropErr (ns.map plN) cur ids) [] [] 0:=⟨_,rfl⟩
 rw [← hP']
 have HP:=hide hP'
 have HBAD:=hide hbad
 clear hP' hbad
 go_enter Tryz.func39,Tryz.ntmps39
 go_wp2_with fail
 have hb1:=(Below.refl w.heap.size w).alloc (Nat.le_refl _) (.cells #[.slice sA ss.length sc,.slice nA ns.length nc,.int .u64 (cur.toNat:Int)] 39)
 have x1:=boxN_new w #[.slice sA ss.length sc,.slice nA ns.length nc,.int .u64 (cur.toNat:Int)] 39
 have hz1:(w.alloc (.cells #[.slice sA ss.length sc,.slice nA ns.length nc,.int .u64 (cur.toNat:Int)] 39)).heap.size = w.heap.size + 1:=by simp
 generalize w.alloc (.cells #[.slice sA ss.length sc,.slice nA ns.length nc,.int .u64 (cur.toNat:Int)] 39) = w1 at *
 have x2:=boxN_new w1 #[.slice iA ids.length ic] 54
 have hb2:=(Below.refl w1.heap.size w1).alloc (Nat.le_refl _) (.cells #[.slice iA ids.length ic] 54)
 have hz2:(w1.alloc (.cells #[.slice iA ids.length ic] 54)).heap.size = w1.heap.size + 1:=by simp
 have x1b:=x1.keep hb2 x1.z
 have hB2:=below_call hb1 hb1.size hb2
 generalize w1.alloc (.cells #[.slice iA ids.length ic] 54) = w2 at *
 have x3:=boxN_new w2 #[.slice none 0 0,.slice none 0 0,.int .u64 0] 39
 have hb3:=(Below.refl w2.heap.size w2).alloc (Nat.le_refl _) (.cells #[.slice none 0 0,.slice none 0 0,.int .u64 0] 39)
 have x1c:=x1b.keep hb3 x1b.z
 have x2c:=x2.keep hb3 x2.z
 have hB3:=below_call hB2 hB2.size hb3
 generalize w2.alloc (.cells #[.slice none 0 0,.slice none 0 0,.int .u64 0] 39) = w3 at *
 have hT3:=hT.later hB3
 have hri3:=(hri.below hB3).more hB3.size
 rw [← hz1, ← hz2]
 have z12:w.heap.size < w1.heap.size:=by omega
 have z23:w1.heap.size < w2.heap.size:=by omega
 have z34:w2.heap.size < w3.heap.size:=x3.z
 generalize hb1e:w.heap.size = b1 at *
 generalize w1.heap.size = b2 at *
 generalize w2.heap.size = b3 at *
 have H1:=hide hb1e
 have c0:=x1c.cell 0 _ rfl
 have c1:=x1c.cell 1 _ rfl
 have c2:=x1c.cell 2 _ rfl
 have c3:=x2c.cell 0 _ rfl
 clear hz1 hz2 hb1 hb2 hb3 x1 x1b x2 hB2 hT hri hb1e
 have zb1:b1 < w3.heap.size:=by omega
 go_loopw [13] (fun iv wr => ∃ k:Nat,k ≤ ids.length ∧ iv = .int .i64 (k:Int) ∧ Hid (∀ j,j < k → hasId (ns.map plN) (ids.getD j default) = true) ∧ Below w3.heap.size w3 wr) (fun iv _ => ids.length - (intOf iv).toNat)
 case atStart => exact ⟨0,Nat.zero_le _,rfl,hide (fun j h => by omega),Below.refl _ _⟩
 case round =>
  clear c0 c1 c2 c3
  obtain ⟨k,hk,rfl,hf,hbr⟩:=hrel
  have X1:=x1c.keep hbr x1c.z
  have X2:=x2c.keep hbr x2c.z
  have X3:=x3.keep hbr x3.z
  have c0:=X1.cell 0 _ rfl
  have c1:=X1.cell 1 _ rfl
  have c2:=X1.cell 2 _ rfl
  have c3:=X2.cell 0 _ rfl
  have hTr:=hT3.later hbr
  have hrr:=(hri3.below hbr).more hbr.size
  have hzr:=hbr.size
  have HX3:=hide X3
  have HBr:=hide hbr
  clear X1 X2 X3 hbr
  by_cases hlt:k < ids.length
  ·obtain ⟨bi,off,rfl,hbi,fi⟩:=hrr.u64 hlt
   generalize hd:ids.getD k default = id at *
   have HD:=hide hd
   clear hd hrr
   go_wp2_with fail
   refine (metaSnap wr sA sc ss nA nc ns cur.toNat hTr h3 h4 id).mono ?_
   rintro e w4 ⟨A4,c4,rfl,hown4,hb4⟩
   have hd:=hasId_ix ns id
   generalize decide ((0:Int) ≤ sIx ns id) = db at hd ⊢
   generalize snAt ns (sIx ns id) = q at *
   have HX4:=hide (HX3.out.keep hb4 (Nat.lt_of_lt_of_le x3.z hzr))
   have hB4:=below_call HBr.out HBr.out.size hb4
   clear hown4 hTr c0 c1 c2 c3 fi
   have hbA:=(Below.refl w4.heap.size w4).alloc (Nat.le_refl _) (.cells #[.int .u64 (q.id.toNat:Int),.int .u64 (q.par.toNat:Int),.int .u64 (q.seq.toNat:Int),.int .u64 (q.off.toNat:Int),.int .u64 (q.tim.toNat:Int),.int .u32 (q.sch.toNat:Int),.slice A4 q.ms.length c4] 43)
   have z4:b3 < w4.heap.size:=HX4.out.z
   have hB5:=hide (hB4.alloc hB4.size (.cells #[.int .u64 (q.id.toNat:Int),.int .u64 (q.par.toNat:Int),.int .u64 (q.seq.toNat:Int),.int .u64 (q.off.toNat:Int),.int .u64 (q.tim.toNat:Int),.int .u32 (q.sch.toNat:Int),.slice A4 q.ms.length c4] 43))
   have q3:w3.heap.size ≤ w4.heap.size:=hB4.size
   have HDB:=hide hd
   have HB4:=hide hB4
   clear hd hB4 hbA hb4
   cases db with
   | false =>
     have HE:=hide (drop_none (cur:=cur) hlt (by rw [HD.out];exact HDB.out.symm))
     have z5:b3 ≠ w4.heap.size:=by omega
     have e0:=HX4.out.cell 0 _ rfl
     have e1:=HX4.out.cell 1 _ rfl
     have e2:=HX4.out.cell 2 _ rfl
     have f0:=HX4.out.free 0 (by simp)
     have f1:=HX4.out.free 1 (by simp)
     have f2:=HX4.out.free 2 (by simp)
     go_wp2_with fail
     (try simp only [Exit.inBlock,Exit.then])
     refine bodyPost_ret (ret_tb2 (b:=b3) rfl _ _ rfl (HX4.out.set3b.keep ((Below.refl _ _).alloc (Nat.le_refl _) _) HX4.out.set3b.z)) rfl ?_
     rw [HP.out,HE.out]
     refine step_bad w _ 2 ?_
     rw [H1.out]
     have hz:b1 ≤ w4.heap.size:=by omega
     have hq:=below_set3b (b:=b3) (v0:=.slice none 0 0) (v1:=.slice none 0 0) (v2:=.int .u64 0) (hB3.trans (HB4.out.mono (show b1 ≤ w3.heap.size by omega))) (show b1 ≤ b3 by omega)
     exact hq.alloc (by rw [show (set3b w4 b3 (.slice none 0 0) (.slice none 0 0) (.int .u64 0)).heap.size = w4.heap.size by simp [set3b]];exact hz) _
   | true =>
     go_wp2_with fail
     go_roundw
     case rel =>
      refine ⟨k + 1,by omega,by go_num,hide (fun j hj => ?_),hB5.out⟩
      by_cases e:j = k
      ·rw [e,HD.out];exact HDB.out.symm
      ·exact hf.out j (by omega)
     case measure => simp [intOf];omega
  ·have hall:ids.all (hasId (ns.map plN)) = true:=drop_all (fun j hj => hf.out j (by omega))
   have HK:Hid (isIn ids cur = true ∧ dropErr (ns.map plN) cur ids = 1):=hide (by
    have h0:=HBAD.out
    unfold dropErr at h0 ⊢
    rw [if_pos hall] at h0 ⊢
    cases hi:isIn ids cur with
    | true => exact ⟨rfl,rfl⟩
    | false => rw [hi] at h0;exact absurd rfl h0)
   have f0:=HX3.out.free 0 (by simp)
   have f1:=HX3.out.free 1 (by simp)
   have f2:=HX3.out.free 2 (by simp)
   have e0:=HX3.out.cell 0 _ rfl
   have e1:=HX3.out.cell 1 _ rfl
   have e2:=HX3.out.cell 2 _ rfl
   clear hall hf
   go_wp2_with fail
   refine (containsU wr _ _ _ iA ids hrr hi cur).mono ?_
   have HI:=HK.out.1
   unfold isIn at HI
   rw [HI]
   clear HI
   rintro e w4 ⟨rfl,rfl⟩
   go_wp2_with fail
   (try simp only [Exit.inBlock,Exit.then])
   refine bodyPost_ret (ret_tb2 (b:=b3) rfl _ _ rfl HX3.out.set3b) rfl ?_
   rw [HP.out,HK.out.2]
   refine step_bad w _ 1 ?_
   rw [H1.out]
   exact below_set3b (hB3.trans (HBr.out.mono (by omega))) (by omega)




theorem ixA_cases {α:Type} [Inhabited α] (p : α → Bool) (l:List α):(∃ k:Nat,ixA p l = (k:Int) ∧ k < l.length) ∨ ixA p l = -1:=by
 unfold ixA
 split
 ·rename_i ha
  exact .inl ⟨_,rfl,List.findIdx_lt_length_of_exists (p:=p) (xs:=l) (by simpa using ha)⟩
 ·exact .inr rfl

section
open Go.RowKit

theorem oth_set (g k:Nat) (w:World) (u:Value):Oth g w (w.setCell ⟨g,k,none⟩ u) :=
 ⟨rfl,rfl,rfl,by simp [World.setCell],fun j _ hne => by simp [World.setCell,Array.getElem?_modify,Ne.symm hne]⟩
section
variable {w:World} {B sz g n c:Nat} {e:TypeId} {xs:List Value}
theorem own_sets:∀ (L:List Value) (w:World) (xs:List Value) (o:Nat),w.ownsRow B e sz (.slice (some ⟨g,0,none⟩) n c) n xs →
 ∃ xs',(w.setCells g o L).ownsRow B e sz (.slice (some ⟨g,0,none⟩) n c) n xs' ∧ (∀ m,m ≤ o → xs'.take m = xs.take m) ∧ Oth g w (w.setCells g o L)
 | [],w,xs,o,h => ⟨xs,h,fun _ _ => rfl,Oth.refl _ _⟩
 | v :: L,w,xs,o,h => by
   obtain ⟨xs',h',ht,ho⟩:=own_sets L (w.setCell ⟨g,o,none⟩ v) (xs.set o v) (o + 1) (own_set1 h o v)
   refine ⟨xs',h',fun m hm => ?_,(oth_set g o w v).trans ho⟩
   rw [ht m (by omega),List.take_set_of_le hm]
theorem own_cut (h:w.ownsRow B e sz (.slice (some ⟨g,0,none⟩) n c) n xs) {i:Nat} (hi:i ≤ n):w.ownsRow B e sz (.slice (some ⟨g,0,none⟩) i c) i (xs.take (i * sz)):=by
 obtain ⟨cur,hc,hb,hs,hn,hm,ht,hl⟩:=own_blk h
 have hle:i * sz ≤ n * sz:=Nat.mul_le_mul_right _ hi
 refine ⟨by rw [List.length_take,hl];omega,.inr ⟨g,c,cur,rfl,hb,hc,by omega,hm,hs,?_⟩⟩
 rw [← ht,List.take_take,Nat.min_eq_left hle]
theorem own_cell (h:w.ownsRow B e sz (.slice (some ⟨g,0,none⟩) n c) n xs) {j:Nat} (hj:j < n * sz):(w.cell? ⟨g,j,none⟩).isSome = true:=by
 obtain ⟨cur,hc,hb,hs,hn,hm,ht,hl⟩:=own_blk h
 have:j < cur.size:=by have:=Nat.mul_le_mul_right sz hn;omega
 simp [World.cell?,hc,this]
end
theorem run_clear_rows (w:World) (g o n c:Nat) (hn:0 < n) (hc:∀ j,j < n * 7 → (w.cell? ⟨g,o + j,none⟩).isSome = true) (hf:∀ j,j < n * 7 → w.frozen? ⟨g,o + j,none⟩ = false) :
 ∃ L:List Value,∀ ty,(Builtin.clear_ #[37] ty #[.slice (some ⟨g,o,none⟩) n c]).run Tryz.prog w = .ok (.tuple #[]) (w.setCells g o L):=by
 have hsz:(Builtin.zeroCells (Value.agg #[.int .u64 0,.int .u64 0,.int .u64 0,.int .u64 0,.int .u64 0,.int .u32 0,.slice none 0 0]).cells n).toList.length = n * 7:=by
  simp [Builtin.zeroCells]
  rfl
 have hone:∀ v ∈ (Builtin.zeroCells (Value.agg #[.int .u64 0,.int .u64 0,.int .u64 0,.int .u64 0,.int .u64 0,.int .u32 0,.slice none 0 0]).cells n).toList,v.oneCell' = true:=by
  intro v hv
  simp only [Builtin.zeroCells,Array.toList_map,List.mem_map] at hv
  obtain ⟨i,_,rfl⟩:=hv
  have e:(Value.agg #[.int .u64 0,.int .u64 0,.int .u64 0,.int .u64 0,.int .u64 0,.int .u32 0,.slice none 0 0]).cells = #[.int .u64 0,.int .u64 0,.int .u64 0,.int .u64 0,.int .u64 0,.int .u32 0,.slice none 0 0]:=rfl
  rw [e]
  have h7:i % 7 < 7:=Nat.mod_lt _ (by decide)
  show ((#[.int .u64 0,.int .u64 0,.int .u64 0,.int .u64 0,.int .u64 0,.int .u32 0,.slice none 0 0]:Array Value)[i % 7]!).oneCell' = true
  generalize i % 7 = k at h7
  match k,h7 with
  | 0,_ => rfl
  | 1,_ => rfl
  | 2,_ => rfl
  | 3,_ => rfl
  | 4,_ => rfl
  | 5,_ => rfl
  | 6,_ => rfl
 have hst:=run_storeCells_cells (P:=Tryz.prog) g o (Builtin.zeroCells (Value.agg #[.int .u64 0,.int .u64 0,.int .u64 0,.int .u64 0,.int .u64 0,.int .u32 0,.slice none 0 0]).cells n).toList 0 w (by rw [hsz];simpa using hc) (by rw [hsz];simpa using hf) hone
 refine ⟨(Builtin.zeroCells (Value.agg #[.int .u64 0,.int .u64 0,.int .u64 0,.int .u64 0,.int .u64 0,.int .u32 0,.slice none 0 0]).cells n).toList,fun ty => ?_⟩
 simp only [Nat.add_zero] at hst
 obtain ⟨m,rfl⟩:∃ m,n = m + 1:=⟨n - 1,by omega⟩
 simp [Builtin.clear_,run_underlying Tryz.underlying37,hst]
/-- what a closure gives, whatever was laid meanwhile, and whatever stands in block g -/
def PredO (w:World) (g fn:Nat) (lb:Array Value) (p:Nl → Bool):Prop :=
 ∀ (W:World) (f:Nl),Oth g w W → Calls Tryz.prog fn (#[.agg #[.int .u64 (f.p.id.toNat:Int),.int .u64 (f.p.par.toNat:Int),.int .u64 (f.p.seq.toNat:Int),.int .u64 (f.p.off.toNat:Int),.int .u64 (f.p.tim.toNat:Int),.int .u32 (f.p.sch.toNat:Int),.slice f.A f.p.ms.length f.c]] ++ lb) W fun e w' => e = .returned (.bool (p f)) ∧ Below W.heap.size W w'
theorem nlsV_take:∀ (l:List Nl) (k:Nat),(nlsV l).take (k * 7) = nlsV (l.take k)
 | [],k => by simp [nlsV]
 | a :: l,0 => by simp [nlsV]
 | a :: l,k + 1 => by
   rw [List.take_succ_cons,nlsV_cons,nlsV_cons, ← nlsV_take l k,show (k + 1) * 7 = (nlV a).length + k * 7 by rw [nlV_length];omega,List.take_length_add_append]
theorem ix_hit {α:Type} [Inhabited α] {p : α → Bool} {l:List α} {k:Nat} (h:ixA p l = (k:Int)):k < l.length ∧ p (l.getD k default) = true ∧ ∀ j,j < k → p (l.getD j default) = false:=by
 obtain ⟨h1,_,h3⟩:=ixA_at h (by omega)
 rw [Int.toNat_natCast] at h1 h3
 refine ⟨h1,h3,fun j hj => ?_⟩
 unfold ixA at h
 split at h
 ·have hk:l.findIdx p = k:=by omega
  have:=List.not_of_lt_findIdx (p:=p) (xs:=l) (i:=j) (by omega)
  simpa [List.getD,show j < l.length by omega] using this
 ·omega
theorem ix_miss {α:Type} {p : α → Bool} {l:List α} (h:ixA p l = -1):l.filter (fun f => !p f) = l:=by
 unfold ixA at h
 split at h
 ·omega
 ·rename_i ha
  rw [List.filter_eq_self]
  intro a hm
  have:l.any p = false:=by simpa using ha
  rw [List.any_eq_false] at this
  simp [this a hm]
theorem filt_start {α:Type} [Inhabited α] {p : α → Bool} {l:List α} {k:Nat} (hk:k < l.length) (h1:p (l.getD k default) = true) (h2:∀ j,j < k → p (l.getD j default) = false):(l.take (k + 1)).filter (fun f => !p f) = l.take k:=by
 rw [List.take_add_one,List.filter_append]
 have e:l[k]?.toList = [l.getD k default]:=by simp [List.getD,hk]
 rw [e]
 have e2:(l.take k).filter (fun f => !p f) = l.take k:=by
  rw [List.filter_eq_self]
  intro a ha
  obtain ⟨j,hj,rfl⟩:=List.getElem_of_mem ha
  rw [List.length_take] at hj
  have:=h2 j (by omega)
  rw [List.getElem_take]
  simpa [List.getD,show j < l.length by omega] using this
 rw [e2,List.filter_cons_of_neg (by rw [h1];decide),List.filter_nil,List.append_nil]
theorem filt_step {α:Type} [Inhabited α] {p : α → Bool} {l:List α} {j:Nat} (hj:j < l.length):(l.take (j + 1)).filter (fun f => !p f) = (l.take j).filter (fun f => !p f) ++ (if p (l.getD j default) = true then [] else [l.getD j default]):=by
 rw [List.take_add_one,List.filter_append]
 have e:l[j]?.toList = [l.getD j default]:=by simp [List.getD,hj]
 rw [e]
 cases h:p (l.getD j default) with
 | true => rw [List.filter_cons_of_neg (by rw [h];decide),List.filter_nil,if_pos rfl]
 | false => rw [List.filter_cons_of_pos (by rw [h];rfl),List.filter_nil,if_neg (by decide)]
theorem drop_getD {α:Type} [Inhabited α] {a b:List α} {j:Nat} (h:a.drop j = b.drop j):a.getD j default = b.getD j default:=by
 have:=congrArg (fun l => l[0]?) h
 simp only [List.getElem?_drop,Nat.add_zero] at this
 simp [List.getD,this]
theorem drop_step {α:Type} {a b:List α} {j:Nat} (h:a.drop j = b.drop j):a.drop (j + 1) = b.drop (j + 1):=by
 have:=congrArg (fun l => l.drop 1) h
 simpa [List.drop_drop] using this
theorem own_nl {w:World} {B g c n j:Nat} {arr:List Nl} (h:w.ownsRow B 43 7 (.slice (some ⟨g,0,none⟩) n c) n (nlsV arr)) (hl:arr.length = n) (hj:j < n) :
 w.cell? ⟨g,j * 7,none⟩ = some (.int .u64 ((arr.getD j default).p.id.toNat:Int)) ∧ w.cell? ⟨g,j * 7 + 1,none⟩ = some (.int .u64 ((arr.getD j default).p.par.toNat:Int)) ∧ w.cell? ⟨g,j * 7 + 2,none⟩ = some (.int .u64 ((arr.getD j default).p.seq.toNat:Int)) ∧
 w.cell? ⟨g,j * 7 + 3,none⟩ = some (.int .u64 ((arr.getD j default).p.off.toNat:Int)) ∧ w.cell? ⟨g,j * 7 + 4,none⟩ = some (.int .u64 ((arr.getD j default).p.tim.toNat:Int)) ∧ w.cell? ⟨g,j * 7 + 5,none⟩ = some (.int .u32 ((arr.getD j default).p.sch.toNat:Int)) ∧
 w.cell? ⟨g,j * 7 + 6,none⟩ = some (.slice (arr.getD j default).A (arr.getD j default).p.ms.length (arr.getD j default).c):=by
 obtain ⟨b,off,e,_,f0,f1,f2,f3,f4,f5,f6⟩:=(rd_own h).nl (i:=j) (by omega)
 injection e with e
 injection e with e1 e2
 subst e1 e2
 simp only [Nat.zero_add] at f0 f1 f2 f3 f4 f5 f6
 exact ⟨f0,f1,f2,f3,f4,f5,f6⟩
set_option maxHeartbeats 4000000 in
theorem deleteN (w:World) (B g c:Nat) (l:List Nl) (ho:w.ownsRow B 43 7 (.slice (some ⟨g,0,none⟩) l.length c) l.length (nlsV l)) (hmax:l.length ≤ 1000000) (fn:Nat) (lb:Array Value) (p:Nl → Bool)
 (eg:∀ args w,(callFunc fn args).run Tryz.prog w = .ok (.enter fn args) w) (hp:PredO w g fn lb p) :
 Calls Tryz.prog 89 #[.slice (some ⟨g,0,none⟩) l.length c,.func (.func fn) #[] lb] w fun e w' => ∃ l',l' = l.filter (fun f => !p f) ∧ e = .returned (.slice (some ⟨g,0,none⟩) l'.length c) ∧ w'.ownsRow B 43 7 (.slice (some ⟨g,0,none⟩) l'.length c) l'.length (nlsV l') ∧ Oth g w w':=by
 have hgl:=own_lt ho
 go_enter Tryz.func89,Tryz.ntmps89
 go_wp2_with fail
 refine (indexN w l.length c (some ⟨g,0,none⟩) l (rd_own ho) hmax fn lb p eg (fun W f hb => (hp W f (Oth.of hb)).mono fun e w' h => ⟨h.1,below_call hb hb.size h.2⟩)).mono ?_
 rintro e w1 ⟨rfl,hb1⟩
 have O1:=own_below ho hb1
 rcases ixA_cases p l with ⟨k,hik,hk⟩ | him
 ·rw [hik]
  obtain ⟨_,hpk,hpj⟩:=ix_hit hik
  have HST:=hide (filt_start hk hpk hpj)
  have hne1:((k:Int) == -1) = false:=by rw [beq_eq_false_iff_ne];omega
  have HP:=hide hp
  clear hik hpk hpj hp
  go_wp2_with fail
  go_loopw [5,6] (fun iv jv wr => ∃ (i j:Nat) (arr:List Nl),iv = .int .i64 (i:Int) ∧ jv = .int .i64 (j:Int) ∧ i < j ∧ j ≤ l.length ∧ Hid (arr.length = l.length) ∧ Hid (arr.take i = (l.take j).filter (fun f => !p f)) ∧ Hid (arr.drop j = l.drop j) ∧ wr.ownsRow B 43 7 (.slice (some ⟨g,0,none⟩) l.length c) l.length (nlsV arr) ∧ Oth g w wr) (fun _ jv _ => l.length - (intOf jv).toNat)
  case atStart => exact ⟨k,k + 1,l,rfl,by go_num,by omega,hk,hide rfl,hide HST.out.symm,hide rfl,O1,Oth.of hb1⟩
  case round =>
   clear hne1
   obtain ⟨i,j,arr,rfl,rfl,hij,hj,hal,htk,hdr,O,hoth⟩:=hrel
   by_cases hlt:j < l.length
   ·obtain ⟨f0,f1,f2,f3,f4,f5,f6⟩:=own_nl O hal.out hlt
    rw [drop_getD hdr.out] at f0 f1 f2 f3 f4 f5 f6
    have hfs:=filt_step (p:=p) hlt
    generalize hf:l.getD j default = f at *
    have HF:=hide hf
    have HFS:=hide hfs
    clear hf hfs
    have y:=boxN_new wr #[.int .u64 (f.p.id.toNat:Int),.int .u64 (f.p.par.toNat:Int),.int .u64 (f.p.seq.toNat:Int),.int .u64 (f.p.off.toNat:Int),.int .u64 (f.p.tim.toNat:Int),.int .u32 (f.p.sch.toNat:Int),.slice f.A f.p.ms.length f.c] 43
    have hbA:=(Below.refl wr.heap.size wr).alloc (Nat.le_refl _) (.cells #[.int .u64 (f.p.id.toNat:Int),.int .u64 (f.p.par.toNat:Int),.int .u64 (f.p.seq.toNat:Int),.int .u64 (f.p.off.toNat:Int),.int .u64 (f.p.tim.toNat:Int),.int .u32 (f.p.sch.toNat:Int),.slice f.A f.p.ms.length f.c] 43)
    have O5:=own_below O hbA
    have hoth5:=hoth.trans (Oth.of hbA)
    have g0:=y.cell 0 _ rfl
    have g1:=y.cell 1 _ rfl
    have g2:=y.cell 2 _ rfl
    have g3:=y.cell 3 _ rfl
    have g4:=y.cell 4 _ rfl
    have g5:=y.cell 5 _ rfl
    have g6:=y.cell 6 _ rfl
    have hcall:=HP.out _ f hoth5
    cases hq:p f with
    | true =>
      rw [hq] at hcall
      have HQ:=hide hq
      clear hq
      go_wp2_with fail
      refine hcall.mono ?_
      rintro e w6 ⟨rfl,hb6⟩
      go_wp2_with fail
      go_roundw
      case rel =>
       refine ⟨i,j + 1,arr,rfl,by go_num,by omega,hlt,hal,hide ?_,hide (drop_step hdr.out),own_below O5 hb6,hoth5.trans (Oth.of hb6)⟩
       rw [HFS.out,HQ.out,htk.out]
       simp
      case measure => simp [intOf];omega
    | false =>
      rw [hq] at hcall
      have HQ:=hide hq
      clear hq
      go_wp2_with fail
      refine hcall.mono ?_
      rintro e w6 ⟨rfl,hb6⟩
      have O6:=own_below O5 hb6
      have y6:=y.keep hb6 y.z
      have hoth6:=hoth5.trans (Oth.of hb6)
      generalize wr.heap.size = b5 at *
      clear f0 f1 f2 f3 f4 f5 f6 g0 g1 g2 g3 g4 g5 g6 hcall
      have g0:=y6.cell 0 _ rfl
      have g1:=y6.cell 1 _ rfl
      have g2:=y6.cell 2 _ rfl
      have g3:=y6.cell 3 _ rfl
      have g4:=y6.cell 4 _ rfl
      have g5:=y6.cell 5 _ rfl
      have g6:=y6.cell 6 _ rfl
      obtain ⟨f0,f1,f2,f3,f4,f5,f6⟩:=own_nl O6 hal.out (show i < l.length by omega)
      have r0:=own_free O6 (i * 7)
      have r1:=own_free O6 (i * 7 + 1)
      have r2:=own_free O6 (i * 7 + 2)
      have r3:=own_free O6 (i * 7 + 3)
      have r4:=own_free O6 (i * 7 + 4)
      have r5:=own_free O6 (i * 7 + 5)
      have r6:=own_free O6 (i * 7 + 6)
      have HO6:=hide (And.intro O6 hoth6)
      have hil:i < l.length:=by omega
      clear O O5 O6 hoth hoth5 hoth6 y y6 hbA hb6
      go_wp2_with fail
      go_roundw
      case rel =>
       have O7:=own_set1 (own_set1 (own_set1 (own_set1 (own_set1 (own_set1 (own_set1 HO6.out.1 (i * 7) (.int .u64 (f.p.id.toNat:Int))) (i * 7 + 1) (.int .u64 (f.p.par.toNat:Int))) (i * 7 + 2) (.int .u64 (f.p.seq.toNat:Int))) (i * 7 + 3) (.int .u64 (f.p.off.toNat:Int))) (i * 7 + 4) (.int .u64 (f.p.tim.toNat:Int))) (i * 7 + 5) (.int .u32 (f.p.sch.toNat:Int))) (i * 7 + 6) (.slice f.A f.p.ms.length f.c)
       rw [nlsV_set f rfl arr i (by rw [hal.out];exact hil)] at O7
       refine ⟨i + 1,j + 1,arr.set i f,by go_num,by go_num,by omega,hlt,hide (by rw [List.length_set];exact hal.out),hide ?_,hide ?_,O7,?_⟩
       ·rw [HFS.out,HQ.out, ← htk.out,List.take_add_one,List.take_set_of_le (Nat.le_refl _)]
        have:i < arr.length:=by rw [hal.out];exact hil
        simp [this]
       ·rw [List.drop_set_of_lt (by omega)];exact drop_step hdr.out
       ·exact ((((((HO6.out.2.trans (oth_set _ _ _ _)).trans (oth_set _ _ _ _)).trans (oth_set _ _ _ _)).trans (oth_set _ _ _ _)).trans (oth_set _ _ _ _)).trans (oth_set _ _ _ _)).trans (oth_set _ _ _ _)
      case measure => simp [intOf];omega
   ·obtain rfl:j = l.length:=by omega
    have hcc:l.length ≤ c:=(rd_own O).le
    have hne:c ≠ i:=by omega
    have hlo:=fun W => run_cut_lo tySnaps (some ⟨g,0,none⟩) l.length c .i64 (i:Int) i rfl (by omega) hcc W
    have hlo2:=fun W => cut_lo tySnaps (some ⟨g,0,none⟩) l.length c .i64 (i:Int) i rfl (by omega) hcc W
    simp only [if_neg hne,Option.map_some,Addr.add_lit,Nat.zero_add] at hlo hlo2
    have hhi:=fun W => run_cut_hi tySnaps (some ⟨g,0,none⟩) l.length c .i64 (i:Int) i rfl (by omega) W
    have hhi2:=fun W => cut_hi tySnaps (some ⟨g,0,none⟩) l.length c .i64 (i:Int) i rfl (by omega) W
    have hmul:i * 7 + (l.length - i) * 7 = l.length * 7:=by omega
    obtain ⟨L,hcl⟩:=run_clear_rows wr g (i * 7) (l.length - i) (c - i) (by omega) (fun t ht => own_cell O (by omega)) (fun t _ => own_free O _)
    have HO:=hide (And.intro O hoth)
    clear O hoth hmul
    go_wp2_with (simp only [hcl])
    go_ret
    obtain ⟨xs',h',htx,ho'⟩:=own_sets L wr (nlsV arr) (i * 7) HO.out.1
    have hfin:l.filter (fun f => !p f) = arr.take i:=by have:=htk.out;rw [List.take_length] at this;exact this.symm
    have hlen:(arr.take i).length = i:=by rw [List.length_take,hal.out];omega
    refine ⟨arr.take i,hfin.symm,?_,?_,HO.out.2.trans ho'⟩
    ·rw [hlen];rfl
    ·rw [hlen]
     have:=own_cut h' (i:=i) (by omega)
     rw [htx _ (Nat.le_refl _),nlsV_take] at this
     exact this
 ·rw [him]
  have HE:=hide (ix_miss him)
  clear him
  go_wp2_with fail
  go_ret
  exact ⟨l,HE.out.symm,rfl,O1,Oth.of hb1⟩
end


theorem BoxT.oth {w w':World} {b g:Nat} {cs:List Value} {t:TypeId} (h:BoxT w b cs t) (ho:Oth g w w') (hne:b ≠ g):BoxT w' b cs t:=by
 obtain ⟨arr,ha⟩:=h.ty
 exact ⟨h.bx.oth ho hne,arr,(ho.block b h.bx.z hne).trans ha⟩
/-- 'slices.Contains(ids, s.Id)', ids in a box -/
theorem predDrop (w:World) (g bf B:Nat) (iA:Option Addr) (n ic:Nat) (ids:List UInt64) (hc:w.cell? ⟨bf,0,none⟩ = some (.slice iA n ic)) (hbf:bf < w.heap.size) (hne:bf ≠ g) (hr:Rd w B 1 iA n ic (u64sV ids)) (hB:B ≤ g) (hBw:B ≤ w.heap.size) (hi:ids.length ≤ 1000000) :
 PredO w g 90 #[.pointer (some ⟨bf,0,none⟩)] (fun f => isIn ids f.p.id):=fun W f ho => by
 have h1:=(ho.cell (p:=⟨bf,0,none⟩) hbf hne).trans hc
 have hrW:Rd W B 1 iA n ic (u64sV ids):=hr.keep fun p hp => ho.cell (Nat.lt_of_lt_of_le hp hBw) (by omega)
 have hBW:bf < W.heap.size:=Nat.lt_of_lt_of_le hbf ho.size
 have hne2:bf ≠ W.heap.size:=Nat.ne_of_lt hBW
 have hsz:B ≤ W.heap.size:=Nat.le_trans hBw ho.size
 show Calls Tryz.prog 90 #[.agg #[.int .u64 (f.p.id.toNat:Int),.int .u64 (f.p.par.toNat:Int),.int .u64 (f.p.seq.toNat:Int),.int .u64 (f.p.off.toNat:Int),.int .u64 (f.p.tim.toNat:Int),.int .u32 (f.p.sch.toNat:Int),.slice f.A f.p.ms.length f.c],.pointer (some ⟨bf,0,none⟩)] W _
 clear hc
 go_enter Tryz.func90,Tryz.ntmps90
 go_wp2_with fail
 refine (containsU _ B n ic iA ids (hrW.alloc hsz _) hi f.p.id).mono ?_
 rintro e w' ⟨rfl,rfl⟩
 go_wp2_with fail
 go_ret
 exact ⟨rfl,(Below.refl _ _).alloc (Nat.le_refl _) _⟩
theorem deleteN0 (w:World) (fn:Nat) (lb:Array Value) (p:Nl → Bool) (eg:∀ args w,(callFunc fn args).run Tryz.prog w = .ok (.enter fn args) w) {g:Nat} (hp:PredO w g fn lb p) :
 Calls Tryz.prog 89 #[.slice none 0 0,.func (.func fn) #[] lb] w fun e w' => e = .returned (.slice none 0 0) ∧ Below w.heap.size w w':=by
 go_enter Tryz.func89,Tryz.ntmps89
 go_wp2_with fail
 refine (indexN w 0 0 none [] (Rd.nil _ _ _) (by decide) fn lb p eg (fun W f hb => (hp W f (Oth.of hb)).mono fun e w' h => ⟨h.1,below_call hb hb.size h.2⟩)).mono ?_
 rintro e w1 ⟨rfl,hb1⟩
 have e1:ixA p ([]:List Nl) = -1:=rfl
 rw [e1]
 go_wp2_with fail
 go_ret
 exact ⟨rfl,hb1⟩
set_option maxHeartbeats 4000000 in
theorem metaDrop0 (w:World) (sA:Option Addr) (sc:Nat) (ss:List Sl) (nA:Option Addr) (nc:Nat) (ns:List Nl) (cur:UInt64) (hT:TabR w w.heap.size sA sc ss nA nc ns) (h1:ss.length ≤ 1000000) (h2:∀ s ∈ ss,s.fs.length ≤ 1000000) (h3:ns.length ≤ 1000000) (h4:∀ s ∈ ns,s.p.ms.length ≤ 1000000)
 (ids:List UInt64) (iA:Option Addr) (ic:Nat) (hri:Rd w w.heap.size 1 iA ids.length ic (u64sV ids)) (hi:ids.length ≤ 1000000) (hgood:dropErr (ns.map plN) cur ids = 0) :
 Calls Tryz.prog 39 #[.agg #[.slice sA ss.length sc,.slice nA ns.length nc,.int .u64 (cur.toNat:Int)],.slice iA ids.length ic] w (StepEnd w 0 (ss.map plS) ((ns.map plN).filter fun s => !isIn ids s.id) cur.toNat):=by
 obtain ⟨P',hP'⟩:∃ P',P' = StepEnd w 0 (ss.map plS) ((ns.map plN).filter fun s => !isIn ids s.id) cur.toNat:=⟨_,rfl⟩
 rw [← hP']
 have HP:=hide hP'
 have HG:=hide hgood
 clear hP' hgood
 go_enter Tryz.func39,Tryz.ntmps39
 go_wp2_with fail
 have hb1:=(Below.refl w.heap.size w).alloc (Nat.le_refl _) (.cells #[.slice sA ss.length sc,.slice nA ns.length nc,.int .u64 (cur.toNat:Int)] 39)
 have x1:=boxN_new w #[.slice sA ss.length sc,.slice nA ns.length nc,.int .u64 (cur.toNat:Int)] 39
 have hz1:(w.alloc (.cells #[.slice sA ss.length sc,.slice nA ns.length nc,.int .u64 (cur.toNat:Int)] 39)).heap.size = w.heap.size + 1:=by simp
 generalize w.alloc (.cells #[.slice sA ss.length sc,.slice nA ns.length nc,.int .u64 (cur.toNat:Int)] 39) = w1 at *
 have x2:=boxN_new w1 #[.slice iA ids.length ic] 54
 have hb2:=(Below.refl w1.heap.size w1).alloc (Nat.le_refl _) (.cells #[.slice iA ids.length ic] 54)
 have hz2:(w1.alloc (.cells #[.slice iA ids.length ic] 54)).heap.size = w1.heap.size + 1:=by simp
 have x1b:=x1.keep hb2 x1.z
 have hB2:=below_call hb1 hb1.size hb2
 generalize w1.alloc (.cells #[.slice iA ids.length ic] 54) = w2 at *
 have x3:=boxN_new w2 #[.slice none 0 0,.slice none 0 0,.int .u64 0] 39
 have hb3:=(Below.refl w2.heap.size w2).alloc (Nat.le_refl _) (.cells #[.slice none 0 0,.slice none 0 0,.int .u64 0] 39)
 have x1c:=x1b.keep hb3 x1b.z
 have x2c:=x2.keep hb3 x2.z
 have hB3:=below_call hB2 hB2.size hb3
 generalize w2.alloc (.cells #[.slice none 0 0,.slice none 0 0,.int .u64 0] 39) = w3 at *
 have hT3:=hT.later hB3
 have hri3:=(hri.below hB3).more hB3.size
 rw [← hz1, ← hz2]
 have z12:w.heap.size < w1.heap.size:=by omega
 have z23:w1.heap.size < w2.heap.size:=by omega
 have z34:w2.heap.size < w3.heap.size:=x3.z
 generalize hb1e:w.heap.size = b1 at *
 generalize w1.heap.size = b2 at *
 generalize w2.heap.size = b3 at *
 have H1:=hide hb1e
 have c0:=x1c.cell 0 _ rfl
 have c1:=x1c.cell 1 _ rfl
 have c2:=x1c.cell 2 _ rfl
 have c3:=x2c.cell 0 _ rfl
 have HRI:=hide hri3
 clear hz1 hz2 hb1 hb2 hb3 x1 x1b x2 hB2 hT hri hb1e
 have zb1:b1 < w3.heap.size:=by omega
 go_loopw [13] (fun iv wr => ∃ k:Nat,k ≤ ids.length ∧ iv = .int .i64 (k:Int) ∧ Hid (∀ j,j < k → hasId (ns.map plN) (ids.getD j default) = true) ∧ Below w3.heap.size w3 wr) (fun iv _ => ids.length - (intOf iv).toNat)
 case atStart => exact ⟨0,Nat.zero_le _,rfl,hide (fun j h => by omega),Below.refl _ _⟩
 case round =>
  clear c0 c1 c2 c3
  obtain ⟨k,hk,rfl,hf,hbr⟩:=hrel
  have X1:=x1c.keep hbr x1c.z
  have X2:=x2c.keep hbr x2c.z
  have X3:=x3.keep hbr x3.z
  have c0:=X1.cell 0 _ rfl
  have c1:=X1.cell 1 _ rfl
  have c2:=X1.cell 2 _ rfl
  have c3:=X2.cell 0 _ rfl
  have hTr:=hT3.later hbr
  have hrr:=(hri3.below hbr).more hbr.size
  have hzr:=hbr.size
  have HX3:=hide X3
  have HBr:=hide hbr
  clear X1 X2 X3 hbr
  by_cases hlt:k < ids.length
  ·obtain ⟨bi,off,rfl,hbi,fi⟩:=hrr.u64 hlt
   generalize hd:ids.getD k default = id at *
   have HD:=hide hd
   clear hd hrr
   go_wp2_with fail
   refine (metaSnap wr sA sc ss nA nc ns cur.toNat hTr h3 h4 id).mono ?_
   rintro e w4 ⟨A4,c4,rfl,hown4,hb4⟩
   have hd:=hasId_ix ns id
   generalize decide ((0:Int) ≤ sIx ns id) = db at hd ⊢
   generalize snAt ns (sIx ns id) = q at *
   have HX4:=hide (HX3.out.keep hb4 (Nat.lt_of_lt_of_le x3.z hzr))
   have hB4:=below_call HBr.out HBr.out.size hb4
   clear hown4 hTr c0 c1 c2 c3 fi
   have hbA:=(Below.refl w4.heap.size w4).alloc (Nat.le_refl _) (.cells #[.int .u64 (q.id.toNat:Int),.int .u64 (q.par.toNat:Int),.int .u64 (q.seq.toNat:Int),.int .u64 (q.off.toNat:Int),.int .u64 (q.tim.toNat:Int),.int .u32 (q.sch.toNat:Int),.slice A4 q.ms.length c4] 43)
   have z4:b3 < w4.heap.size:=HX4.out.z
   have hB5:=hide (hB4.alloc hB4.size (.cells #[.int .u64 (q.id.toNat:Int),.int .u64 (q.par.toNat:Int),.int .u64 (q.seq.toNat:Int),.int .u64 (q.off.toNat:Int),.int .u64 (q.tim.toNat:Int),.int .u32 (q.sch.toNat:Int),.slice A4 q.ms.length c4] 43))
   have q3:w3.heap.size ≤ w4.heap.size:=hB4.size
   have HDB:=hide hd
   have HB4:=hide hB4
   clear hd hB4 hbA hb4
   cases db with
   | false =>
     have h2:=drop_none (cur:=cur) hlt (by rw [HD.out];exact HDB.out.symm)
     rw [HG.out] at h2
     cases h2
   | true =>
     go_wp2_with fail
     go_roundw
     case rel =>
      refine ⟨k + 1,by omega,by go_num,hide (fun j hj => ?_),hB5.out⟩
      by_cases e:j = k
      ·rw [e,HD.out];exact HDB.out.symm
      ·exact hf.out j (by omega)
     case measure => simp [intOf];omega
  ·have hall:ids.all (hasId (ns.map plN)) = true:=drop_all (fun j hj => hf.out j (by omega))
   have HI:isIn ids cur = false:=by
    have h0:=HG.out
    unfold dropErr at h0
    rw [if_pos hall] at h0
    cases hi:isIn ids cur with
    | true => rw [hi] at h0;cases h0
    | false => rfl
   clear hall hf
   go_wp2_with fail
   refine (containsU wr _ _ _ iA ids hrr hi cur).mono ?_
   unfold isIn at HI
   rw [HI]
   clear HI
   rintro e w4 ⟨rfl,rfl⟩
   go_wp2_with fail
   refine (metaCopied wr sA sc ss nA nc ns cur.toNat hTr h1 h2 h3 h4).mono ?_
   rintro e w5 ⟨oA,oc,sd,pA',pc',nd,rfl,O5,hps,hpn,hb5⟩
   have X3:=HX3.out.keep hb5 HX3.out.z
   have X2:=(x2c.keep HBr.out x2c.z).keep hb5 (x2c.keep HBr.out x2c.z).z
   have hri5:Rd w5 w3.heap.size 1 iA ids.length ic (u64sV ids):=(HRI.out.below HBr.out).below' hb5 hzr
   have hB5:Below b1 w w5:=below_call (hB3.trans (HBr.out.mono (by omega))) (by omega) hb5
   have hnl:nd.length = ns.length:=by have:=congrArg List.length hpn;simpa using this
   have HNL:=hide hnl
   have HPS:=hide (And.intro hps hpn)
   clear hnl hps hpn
   have y:=boxT_new w5 #[.slice oA sd.length oc,.slice pA' nd.length pc',.int .u64 (cur.toNat:Int)] 39
   have hbA:=(Below.refl w5.heap.size w5).alloc (Nat.le_refl _) (.cells #[.slice oA sd.length oc,.slice pA' nd.length pc',.int .u64 (cur.toNat:Int)] 39)
   have O6:=O5.keep hbA
   have X36:=X3.keep hbA X3.z
   have X26:=X2.keep hbA X2.z
   have z5:wr.heap.size ≤ w5.heap.size:=hb5.size
   have hri6:=hri5.below' hbA (show w3.heap.size ≤ w5.heap.size by omega)
   have X2c:=X26.cell 0 _ rfl
   have X2z:=X26.z
   have hBA:Below b1 w _:=below_call hB5 (show b1 ≤ w5.heap.size by omega) hbA
   have zb3:b3 < wr.heap.size:=by omega
   have zb1:b1 ≤ wr.heap.size:=by omega
   have u1:=y.bx.cell 1 _ rfl
   have y5:w5.heap.size < (w5.alloc (.cells #[.slice oA sd.length oc,.slice pA' nd.length pc',.int .u64 (cur.toNat:Int)] 39)).heap.size:=y.bx.z
   go_wp2_with fail
   generalize w5.alloc (.cells #[.slice oA sd.length oc,.slice pA' nd.length pc',.int .u64 (cur.toNat:Int)] 39) = w6 at *
   have hpred:∀ g,wr.heap.size ≤ g → PredO w6 g 90 #[.pointer (some ⟨b2,0,none⟩)] (fun f => isIn ids f.p.id):=fun g hg => predDrop w6 g b2 w3.heap.size iA ids.length ic ids X2c X2z (by omega) hri6 (by omega) (by omega) hi
   have hnd:nd.length ≤ 1000000:=by have:=HNL.out;omega
   have hgl:∀ g,pA' = some ⟨g,0,none⟩ → wr.heap.size ≤ g ∧ g < w5.heap.size:=fun g e => own_lt (by have:=O5.nown;rw [e] at this;exact this)
   have HDEL:Hid (Calls Tryz.prog 89 #[.slice pA' nd.length pc',.func (.func 90) #[] #[.pointer (some ⟨b2,0,none⟩)]] w6 fun e w' => ∃ l',l' = nd.filter (fun f => !isIn ids f.p.id) ∧ e = .returned (.slice pA' l'.length pc') ∧ OwnT w' wr.heap.size oA oc sd pA' pc' l' ∧ BoxT w' w5.heap.size #[.slice oA sd.length oc,.slice pA' nd.length pc',.int .u64 (cur.toNat:Int)].toList 39 ∧ BoxN w' b3 [.slice none 0 0,.slice none 0 0,.int .u64 0] ∧ Below b1 w w'):=hide (by
    rcases O6.nown.2 with ⟨eN,hnil⟩ | ⟨g,cap,curc,eN,_,_⟩
    ·injection eN with e1 e2 e3
     subst e1 e3
     obtain rfl:nd = []:=List.eq_nil_of_length_eq_zero e2
     refine (deleteN0 w6 90 #[.pointer (some ⟨b2,0,none⟩)] (fun f => isIn ids f.p.id) (fun args w => enters_of Tryz.func90 (by kernel_rfl) rfl args w) (hpred _ (Nat.le_refl _))).mono ?_
     rintro e w8 ⟨rfl,hb8⟩
     exact ⟨[],rfl,rfl,O6.keep hb8,y.keep hb8,X36.keep hb8 X36.z,below_call hBA (by have:=hBA.size;omega) hb8⟩
    ·injection eN with e1 e2 e3
     subst e1 e3
     obtain ⟨g1,g2⟩:=hgl g rfl
     refine (deleteN w6 wr.heap.size g pc' nd O6.nown hnd 90 #[.pointer (some ⟨b2,0,none⟩)] (fun f => isIn ids f.p.id) (fun args w => enters_of Tryz.func90 (by kernel_rfl) rfl args w) (hpred g g1)).mono ?_
     rintro e w8 ⟨l',hl',rfl,On,hoth⟩
     refine ⟨l',hl',rfl,⟨own_othT O6.sown O6.nown hoth (by decide),fun s hs => own_othT (O6.sin s hs) O6.nown hoth (by decide),On,fun s hs => own_othT (O6.nin s (by rw [hl'] at hs;exact (List.mem_filter.1 hs).1)) O6.nown hoth (by decide)⟩,y.oth hoth (by omega),X36.oth hoth (by omega),hBA.trans (hoth.belowB (by omega) (by omega))⟩)
   have HZ:=hide (And.intro zb3 (And.intro zb1 z5))
   clear hpred hgl O5 O6 y X36 X26 X2c X2z hBA hbA hb5 hri6 hri5 X3 X2
   refine HDEL.out.mono ?_
   rintro e w8 ⟨l',hl',rfl,O8,y8,X8,hB8⟩
   have c0:=y8.bx.cell 0 _ rfl
   have c1:=y8.bx.cell 1 _ rfl
   have c2:=y8.bx.cell 2 _ rfl
   have f0:=y8.bx.free 1 (by simp)
   have nb:w5.heap.size ≠ b3:=by have:=HZ.out;omega
   have nb':b3 ≠ w5.heap.size:=by have:=HZ.out;omega
   have k0:=X8.cell 0 _ rfl
   have k1:=X8.cell 1 _ rfl
   have k2:=X8.cell 2 _ rfl
   have q0:=X8.free 0 (by simp)
   have q1:=X8.free 1 (by simp)
   have q2:=X8.free 2 (by simp)
   have HL:=hide hl'
   have HO:=hide (And.intro O8 (And.intro y8 X8))
   clear hl' O8 y8 X8
   go_wp2_with fail
   (try simp only [Exit.inBlock,Exit.then])
   refine bodyPost_ret (ret_tb2 (b:=b3) rfl _ _ rfl (HO.out.2.2.else (p:=⟨w5.heap.size,1,none⟩) nb _).set3b) rfl ?_
   rw [HP.out]
   refine ⟨oA,oc,sd,pA',pc',l',rfl,?_,HPS.out.1,?_,?_⟩
   ·rw [H1.out]
    exact ((HO.out.1.setT HO.out.2.1 1 _).set3b HZ.out.1).base HZ.out.2.1
   ·rw [HL.out, ← HPS.out.2,List.filter_map]
    rfl
   ·rw [H1.out]
    exact below_set3b (hB8.setCell (p:=⟨w5.heap.size,1,none⟩) (show b1 ≤ w5.heap.size by have:=HZ.out;omega) _) (by omega)


theorem names_len {l:List ByteArray} (h:namesOk l = true):l.length ≤ 8:=by
 unfold namesOk at h
 simp only [Bool.and_eq_true,decide_eq_true_eq] at h
 exact h.1





section
theorem getD_at {α:Type} (l:List α) (d : α) {i:Nat} (h:i < l.length):l.getD i d = l[i]:=by
 rw [List.getD,List.getElem?_eq_getElem h]
 rfl
end
end

section


section
open Go.RowKit

section
variable {w w':World} {b:Nat} {sA:Option Addr} {sc:Nat} {ss:List Sl} {nA:Option Addr} {nc:Nat} {ns:List Nl} {cu:Nat}
end
end

section
open Go.ChangeShapes Go.WideShapes Go.ChangeAt Go.RowKit
open Go.ChangeMaps (open_string shut_string)

end

section
open Go.ChangeShapes Go.WideShapes Go.ChangeAt Go.RowKit Go.Deep Go.Joins

section
variable {H:Type} {enc:TypeId × Value → H} {w:World} {base:Nat} {spare:Nat → Bool} {held:Bool} {fuel:Nat}
/-- a field of a struct of one-cell fields, by its place -/
theorem trod_at {P:Program} {t:TypeId} {fs:Array Field} {cs:List Value} {x:DataW H × List MemPlace} {F:Nat} (ht:P.underlying t = some (.struct fs)) (hone:oneCellFields P fs = true) (h:DataW.trod enc P w base spare held F t cs = some x) (hl:cs.length = fs.size) :
 ∃ n,∀ (i:Nat) (f:Field) (c:Value),fs[i]? = some f → cs[i]? = some c → ∃ y,DataW.trod enc P w base spare held n f.type [c] = some y:=by
 obtain ⟨ys,n,_,_,_,hyl,hf⟩:=DataW.trod_struct ht h
 refine ⟨n,fun i f c hi hc => ?_⟩
 obtain ⟨ho,hk⟩:=hone_of hone i f hi
 have h1:=hf i f hi
 rw [ho,hk] at h1
 have hil:i < cs.length:=(List.getElem?_eq_some_iff.1 hc).1
 have e:(cs.drop i).take 1 = [c]:=by
  rw [List.drop_eq_getElem_cons hil]
  have:=(List.getElem?_eq_some_iff.1 hc).2
  simp [this]
 rw [e] at h1
 have hys:i < ys.length:=by rw [hyl];rw [← hl];exact hil
 exact ⟨_,h1.trans (List.getElem?_eq_getElem hys)⟩
end
end

section
open Go.ChangeShapes Go.WideShapes Go.ChangeAt Go.RowKit Go.Deep Go.Joins

end

section
open Go.ChangeShapes Go.WideShapes Go.ChangeAt Go.RowKit Go.Deep Go.Joins

section
variable {H:Type} {enc:TypeId × Value → H} {w:World} {base:Nat} {spare:Nat → Bool} {held:Bool} {fuel:Nat}
/-- a row of things of k cells, each of which opens -/
theorem open_rows {α:Type} [Inhabited α] {P:Program} (encA : α → List Value) (k:Nat) (hk:∀ a,(encA a).length = k) {ts te:TypeId} (hts:P.underlying ts = some (.slice te)) (hcl:P.cellsOf te = k) (hk0:0 < k) (Q : α → Prop)
 (hopen:∀ (F:Nat) (cs:List Value) (x:DataW H × List MemPlace),cs.length = k → DataW.trod enc P w base (fun _ => true) held F te cs = some x → ∃ a,cs = encA a ∧ Q a)
 {cs:List Value} {x:DataW H × List MemPlace} (h:DataW.trod enc P w base (fun _ => true) held fuel ts cs = some x) :
 ∃ (A:Option Addr) (n c:Nat) (l:List α),cs = [.slice A n c] ∧ Rd w w.heap.size k A n c (l.flatMap encA) ∧ ∀ a ∈ l,Q a:=by
 rcases open_slice hts h with ⟨h0,_⟩ | ⟨a,len,cap,m,n,D,Pl,hcs,hb,hl,hm,hmm,hx,hi⟩
 ·exact ⟨none,0,0,[],h0,Rd.nil _ _ _,by simp⟩
 ·rw [if_pos rfl] at hmm
  have each:∀ i,i < len → ∃ f : α,(∀ j,j < k → w.cell? (a.add (i * k + j)) = (encA f)[j]?) ∧ Q f:=by
   intro i him
   obtain ⟨cs',hc,ht'⟩:=hi i (by omega)
   rw [hcl] at hc
   obtain ⟨_,hcl',hat⟩:=World.cells?_some hc
   obtain ⟨f,rfl,hq⟩:=hopen _ _ _ hcl' ht'
   refine ⟨f,fun j hj => ?_,hq⟩
   have:=hat j hj
   rwa [Go.Deep.add_add] at this
  obtain ⟨F,hF⟩:=choose_lt each
  refine ⟨some a,len,cap,(List.range len).map F,hcs,?_,fun f hf => ?_⟩
  ·refine ⟨by rw [flat_len encA k hk];simp,hl,hm,fun hn => ?_⟩
   obtain ⟨b,off,spot⟩:=a
   have hc0:=(hF 0 hn).1 0 hk0
   have hx0:∃ v,(encA (F 0))[0]? = some v:=⟨_,List.getElem?_eq_getElem (by rw [hk];exact hk0)⟩
   obtain ⟨v0,hv0⟩:=hx0
   have hspot:spot = none:=by
    have:=World.cell?_spot (hc0.trans hv0)
    simpa [Addr.add] using this
   subst hspot
   have hblk:b < w.heap.size:=by
    have:=World.block_lt_of_cell? w _ (hc0.trans hv0)
    rw [Addr.add_lit] at this
    exact this
   refine ⟨b,off,rfl,hblk,fun j u hu => ?_⟩
   have hjl:j < len * k:=by
    have:=(List.getElem?_eq_some_iff.1 hu).1
    rw [flat_len encA k hk] at this
    simpa using this
   have hd:j / k < len:=Nat.div_lt_of_lt_mul (by rw [Nat.mul_comm];exact hjl)
   have hm:j % k < k:=Nat.mod_lt _ hk0
   have hjk:j / k * k + j % k = j:=by rw [Nat.mul_comm];exact Nat.div_add_mod j k
   have e:=flat_get encA k hk ((List.range len).map F) (j / k) (j % k) (by simpa using hd) hm
   rw [hjk] at e
   have e2:=(hF (j / k) hd).1 (j % k) hm
   rw [hjk,Addr.add_lit] at e2
   rw [e2, ← hu,e]
   simp
  ·obtain ⟨i,hi',rfl⟩:=List.mem_map.1 hf
   exact (hF i (by simpa using hi')).2
end
end

section
open Go.ChangeShapes Go.WideShapes Go.ChangeAt Go.RowKit Go.Deep Go.Joins

end


theorem xor_zero (a:Nat) (ha:a < 18446744073709551616):bits .xor .u64 (a:Int) 0 = (a:Int):=by
 have h:=u64_xor_nat a 0 ha (by omega)
 simpa using h

section
def packF (f:Fd):List UInt8:=Var.put f.id.toNat ++ (Var.put f.name.size ++ (f.name.data.toList ++ (Var.put f.kind.toNat ++ [if f.need then 1 else 0])))
def packFs (l:List Fd):List UInt8:=l.flatMap packF
def pack (id:UInt32) (l:List Fd):List UInt8:=Var.put id.toNat ++ (Var.put l.length ++ packFs l)
theorem packFs_append (a b:List Fd):packFs (a ++ b) = packFs a ++ packFs b:=by simp [packFs]

/-- the names of a schema that may be are short -/
theorem check_names {id:UInt32} {l:List Fd} (h:check id l = 0):∀ f ∈ l,f.name.size ≤ 16:=by
 intro f hf
 obtain ⟨k,hk,rfl⟩:=List.getElem_of_mem hf
 have h0:=check_all h k hk
 have hg:l.getD k default = l[k]:=by simp [List.getD,hk]
 by_cases h1:l[k].id.toNat ≤ wasId l k
 ·rw [errAt_81 (f:=l[k]) hg h1] at h0;cases h0
 ·cases hn:named l[k].name with
  | false => rw [errAt_80 (f:=l[k]) hg h1 (by rw [hn];rfl)] at h0;cases h0
  | true =>
    unfold named at hn
    simp at hn
    omega
end


theorem row_below {w w':World} {b:Nat} {o:Obj} (hT:w.heap[b]? = some o) (hb:Below w.heap.size w w'):w'.heap[b]? = some o :=
 (hb.block b (Array.getElem?_eq_some_iff.1 hT).1).trans hT
/-- a row of another type stands while one's own grows -/
theorem row_grown {w w':World} {b base:Nat} {arr:Array Value} {t e:TypeId} {fr:Nat × Nat} {v:Value} {n sz:Nat} {xs:List Value} (hT:w.heap[b]? = some (.cells arr t fr)) (hown:w.ownsRow base e sz v n xs) (hg:w.grownBy w' v.ownBlock) (hne:e ≠ t) :
 w'.heap[b]? = some (.cells arr t fr):=by
 refine (hg.block b (Array.getElem?_eq_some_iff.1 hT).1 ?_).trans hT
 intro q
 rcases hown.2 with ⟨rfl,_⟩ | ⟨g,cap,cur,rfl,_,hgc,_⟩
 ·cases q
 ·simp only [Value.ownBlock] at q
  injection q with q
  subst q
  rw [hT] at hgc
  injection hgc with hgc
  injection hgc with _ q2 _
  exact hne q2.symm
def OwnB (B:Nat) (l:List UInt8) (v:Value) (w:World):Prop:=w.ownsRow B 5 1 v l.length (bytesV l)
theorem mono_ownB (B:Nat) (l:List UInt8):(Slot.has (OwnB B l)).mono Ext:=fun _ _ _ he h => own_below h he
theorem ownB_ret {w w':World} {B:Nat} {l:List UInt8} {e:Ending} (h:RetBytes w l e w') (hB:B ≤ w.heap.size):∃ v,e = .returned v ∧ Ext w w' ∧ (Slot.has (OwnB B l)).holds v w':=by
 obtain ⟨v,rfl,ho,hb⟩:=h
 exact ⟨v,rfl,hb,own_base ho hB⟩
theorem bytesR_ret {w w':World} {l:List UInt8} {e:Ending} (h:RetBytes w l e w'):∃ v,e = .returned v ∧ Ext w w' ∧ (Slot.has (BytesR l)).holds v w':=by
 obtain ⟨v,h1,h2,h3⟩:=h
 exact bytes_ret h1 h2 h3
def Sized (l:List Fd):Prop:=l.length ≤ 1000000 ∧ ∀ j,j < l.length → (l.getD j default).name.size ≤ 1000000
/-- what holds at each round -/
def PR (wx:World) (id:UInt32) (l:List Fd) (v iv:Value) (wr:World):Prop :=
 ∃ (k:Nat) (cur:List UInt8) (vb:Value),v = vb ∧ iv = .int .i64 (k:Int) ∧ k ≤ l.length ∧ wr.ownsRow wx.heap.size 5 1 vb cur.length (bytesV cur) ∧ Hid (cur = Var.put id.toNat ++ (Var.put l.length ++ packFs (l.take k))) ∧ cur.length ≤ 20 + k * 1000031 ∧ Below wx.heap.size wx wr
theorem packFs_take {l:List Fd} {k:Nat} (hk:k < l.length):packFs (l.take (k + 1)) = packFs (l.take k) ++ packF (l.getD k default):=by
 rw [List.take_add_one,packFs_append]
 simp [hk,packFs,List.getD]
theorem cur_next {id:UInt32} {l:List Fd} {k:Nat} {cur c1 c2 c3 c4 c5:List UInt8} (hk:k < l.length) (h:cur = Var.put id.toNat ++ (Var.put l.length ++ packFs (l.take k))) {f:Fd} (hf:f = l.getD k default)
 (h1:c1 = cur ++ Var.put f.id.toNat) (h2:c2 = c1 ++ Var.put f.name.size) (h3:c3 = c2 ++ f.name.data.toList) (h4:c4 = c3 ++ Var.put f.kind.toNat) (h5:c5 = c4 ++ [if f.need then 1 else 0]) :
 c5 = Var.put id.toNat ++ (Var.put l.length ++ packFs (l.take (k + 1))):=by
 rw [packFs_take hk, ← hf,h5,h4,h3,h2,h1,h]
 unfold packF
 simp only [List.append_assoc]
set_option maxHeartbeats 4000000 in
theorem schPack (w:World) (id:UInt32) (n c:Nat) (A:Option Addr) (l:List Fd) (hr:Rd w w.heap.size 4 A n c (fdsV l)) (hsz:Sized l) :
 Calls Tryz.prog 154 #[.agg #[.int .u32 (id.toNat:Int),.slice A n c]] w (RetBytes w (pack id l)):=by
 obtain rfl:=hr.lenF
 obtain ⟨hl6,hnm6⟩:=hsz
 have hidb:id.toNat < 4294967296:=id.toNat_lt
 go_enter Tryz.func154,Tryz.ntmps154
 go_wp2_with fail
 have x1:=box_new w #[.int .u32 (id.toNat:Int),.slice A l.length c] 33
 obtain ⟨wx,hwx⟩:∃ wx,wx = w.alloc (.cells #[.int .u32 (id.toNat:Int),.slice A l.length c] 33):=⟨_,rfl⟩
 rw [← hwx] at x1 ⊢
 have s0:=x1.cell 0 _ rfl
 have s1:=x1.cell 1 _ rfl
 have zx:w.heap.size < wx.heap.size:=by have:=x1.size;omega
 have hrx:=hr.below x1.below
 have hBx:=x1.below
 obtain ⟨bx,hbx⟩:∃ bx,bx = w.heap.size:=⟨_,rfl⟩
 rw [← hbx] at s0 s1 zx hrx ⊢
 have HBX:=hide hbx
 clear hwx x1 hr hbx
 have hp1:=Var.put_le10 (n:=id.toNat) (by omega)
 have hp2:=Var.put_le10 (n:=l.length) (by omega)
 have e32:(id.toNat:Int) % 18446744073709551616 = (id.toNat:Int):=by omega
 have e33:IntKind.u64.wrap (id.toNat:Int) = (id.toNat:Int):=by rw [IntKind.wrap_u64];omega
 have e34:(l.length:Int) % 18446744073709551616 = (l.length:Int):=by omega
 have e35:IntKind.u64.wrap (l.length:Int) = (l.length:Int):=by rw [IntKind.wrap_u64];omega
 refine wp_region_abs_tail 9 ext_grow (by kernel_rfl) (by kernel_rfl) ?_
 simp only [List.map_cons,List.map_nil,List.take_succ_cons,List.take_zero,List.drop_succ_cons,List.drop_zero]
 refine wpA_value ext_grow ?_ (fun _ _ h => by cases h) rfl rfl ?_ ?_
 rotate_left 1
 ·intro w' hw' C hC
  go_simp
  try go_bits
  exact hC
 simp only [putS,zC0,zB0]
 refine wpA_value ext_grow ?_ (fun _ _ h => by cases h) rfl rfl ?_ ?_
 rotate_left 1
 ·intro w' hw' C hC
  have q:=(hw'.cell (p:=⟨bx,0,none⟩) zx).trans s0
  go_simp
  try go_bits
  exact hC
 simp only [putS,zC0,zB0]
 refine wpA_value ext_grow ?_ (fun _ _ h => by cases h) rfl rfl ?_ ?_
 rotate_left 1
 ·intro w' hw' C hC
  have q:=e33
  go_simp
  try go_bits
  exact hC
 simp only [putS,zC0,zB0]
 refine wpA_known (.has (OwnB wx.heap.size (Var.put id.toNat))) (fun _ _ h => by cases h) rfl rfl (mono_ownB _ _) (fun w' hw' => ?_) ?_
 ·go_simp
  exact ⟨Below.refl _ _,(varPut (id.toNat:Int) w' (by omega) (by omega)).mono fun e w'' h => ownB_ret (by rw [Int.toNat_natCast] at h;exact h) hw'.size⟩
 simp only [putS,zC0,zB0]
 refine wpA_value ext_grow ?_ (fun _ _ h => by cases h) rfl rfl ?_ ?_
 rotate_left 1
 ·intro w' hw' C hC
  go_simp
  try go_bits
  exact hC
 simp only [putS,zC0,zB0]
 refine wpA_value ext_grow ?_ (fun _ _ h => by cases h) rfl rfl ?_ ?_
 rotate_left 1
 ·intro w' hw' C hC
  have q:=(hw'.cell (p:=⟨bx,1,none⟩) zx).trans s1
  go_simp
  try go_bits
  exact hC
 simp only [putS,zC0,zB0]
 refine wpA_value ext_grow ?_ (fun _ _ h => by cases h) rfl rfl ?_ ?_
 rotate_left 1
 ·intro w' hw' C hC
  go_simp
  try go_bits
  exact hC
 simp only [putS,zC0,zB0]
 refine wpA_value ext_grow ?_ (fun _ _ h => by cases h) rfl rfl ?_ ?_
 rotate_left 1
 ·intro w' hw' C hC
  have q:=e35
  go_simp
  try go_bits
  exact hC
 simp only [putS,zC0,zB0]
 refine wpA_known (.has (BytesR (Var.put l.length))) (fun _ _ h => by cases h) rfl rfl (mono_bytes _) (fun w' hw' => ?_) ?_
 ·go_simp
  exact ⟨Below.refl _ _,(varPut (l.length:Int) w' (by omega) (by omega)).mono fun e w'' h => bytesR_ret (by rw [Int.toNat_natCast] at h;exact h)⟩
 simp only [putS,zC0,zB0]
 intro wA hwA
 simp only [openS]
 intro vo ho vl hvl
 obtain ⟨Al,cl,rfl,hl⟩:=hvl
 have hbA:Below wx.heap.size wx wA:=below_of_drew hwA
 have ho:wA.ownsRow wx.heap.size 5 1 vo (Var.put id.toNat).length (bytesV (Var.put id.toNat)):=ho
 clear hwA e32 e33 e34 e35
 go_wp2_with (at_builtin;refine wpList_app _ tyBytes rfl (.tmp 10) (.tmp 15) rfl wx.heap.size _ _ _ rfl ho wA.heap.size Al _ cl _ rfl hl (bytesV_one _) (by omega) hbA.size ?_;intro v2 wB hown hg _;have hbB:=below_app hbA (Nat.le_refl _) ho hg hbA.size;have s1B:=(hbB.cell (p:=⟨bx,1,none⟩) zx).trans s1;clear hg)
 have hown0:wB.ownsRow wx.heap.size 5 1 v2 (Var.put id.toNat ++ (Var.put l.length ++ packFs (l.take 0))).length (bytesV (Var.put id.toNat ++ (Var.put l.length ++ packFs (l.take 0)))):=by
  simp only [List.take_zero,packFs,List.flatMap_nil,List.append_nil]
  rw [List.length_append,bytesV_append]
  exact hown
 clear hown ho hl hbA
 go_loopw [3,20] (PR wx id l) (fun _ iv _ => l.length - (intOf iv).toNat)
 case atStart => exact ⟨0,_,_,rfl,rfl,Nat.zero_le _,hown0,hide rfl,by simp [packFs];omega,hbB⟩
 case round =>
  clear hown0 hbB
  obtain ⟨k,cur,vb,rfl,rfl,hk,hown,hcur,hlen,hbr⟩:=hrel
  have s1r:=(hbr.cell (p:=⟨bx,1,none⟩) zx).trans s1
  by_cases hlt:k < l.length
  ·obtain ⟨b0,off,rfl,hb0,f0,f1,f2,f3⟩:=(hrx.below' hbr (Nat.le_of_lt zx)).fd hlt
   have hfn:=hnm6 k hlt
   obtain ⟨f,hf⟩:∃ f,f = l.getD k default:=⟨_,rfl⟩
   rw [← hf] at f0 f1 f2 f3 hfn
   have HF:=hide hf
   have HN:=hide hfn
   have hfid:=f.id.toNat_lt
   have hfkd:=f.kind.toNat_lt
   have q1:=Var.put_le10 (n:=f.id.toNat) (by omega)
   have q2:=Var.put_le10 (n:=f.name.size) (by omega)
   have q3:=Var.put_le10 (n:=f.kind.toNat) (by omega)
   have q4:f.name.data.toList.length = f.name.size:=by simp
   have m1:(f.name.size:Int) % 18446744073709551616 = (f.name.size:Int):=by omega
   have HQ:=hide (And.intro q1 (And.intro q2 (And.intro q3 q4)))
   clear hf q1 q2 q3 q4 hfn
   go_wp2_with fail
   have hT:=heap_alloc_new wr (.cells #[.int .u32 (f.id.toNat:Int),.string f.name,.int .u8 (f.kind.toNat:Int),.bool f.need] 89)
   have hown1:=hown.alloc (.cells #[.int .u32 (f.id.toNat:Int),.string f.name,.int .u8 (f.kind.toNat:Int),.bool f.need] 89)
   have hb1:=hbr.alloc hbr.size (.cells #[.int .u32 (f.id.toNat:Int),.string f.name,.int .u8 (f.kind.toNat:Int),.bool f.need] 89)
   generalize wr.alloc (.cells #[.int .u32 (f.id.toNat:Int),.string f.name,.int .u8 (f.kind.toNat:Int),.bool f.need] 89) = w1 at *
   generalize wr.heap.size = bf at *
   clear f0 f1 f2 f3 hown hbr s1r
   have g10:=cell_of_row w1 bf 0 _ _ _ hT
   simp at g10
   go_wp2_with fail
   refine (varPut (f.id.toNat:Int) w1 (by omega) (by omega)).mono ?_
   rintro e w2 ⟨vp,rfl,hop,hbp⟩
   rw [Int.toNat_natCast] at hop
   obtain ⟨pA,pc,rfl,hrp⟩:=Rd.of_own hop
   have hT2:=row_below hT hbp
   have hown2:=own_below hown1 hbp
   have hb2:=below_call hb1 hb1.size hbp
   have zz2:=hb2.size
   clear hop hbp hown1 hb1 hT
   obtain ⟨ti,hti,hti1,hti2,hti3⟩:=info_parts tyBytes.inf
   go_wp2_with (at_builtin;refine wpList_app _ tyBytes rfl (.tmp 24) (.tmp 28) rfl wx.heap.size _ _ _ rfl hown2 w2.heap.size pA _ pc _ rfl hrp (bytesV_one _) (by have:=HQ.out.1;omega) hb2.size ?_;intro v3 w3 ho hg _;have hb3:=below_app hb2 (Nat.le_refl _) hown2 hg hb2.size;have hT3:=row_grown hT2 hown2 hg (by decide);obtain ⟨c1,hc1⟩:∃ c,c = cur ++ Var.put f.id.toNat:=⟨_,rfl⟩;have hown3:w3.ownsRow wx.heap.size 5 1 v3 c1.length (bytesV c1):=(by rw [hc1,List.length_append,bytesV_append];exact ho);have hlc1:c1.length = cur.length + (Var.put f.id.toNat).length:=(by rw [hc1,List.length_append]);have Hc1:=hide hc1;have HLc1:=hide hlc1;have g31:=cell_of_row w3 bf 1 _ _ _ hT3;simp at g31;clear ho hg hc1 hlc1)
   refine (varPut (f.name.size:Int) w3 (by omega) (by have:=HN.out;omega)).mono ?_
   rintro e w4 ⟨vp,rfl,hop,hbp⟩
   rw [Int.toNat_natCast] at hop
   obtain ⟨pA,pc,rfl,hrp⟩:=Rd.of_own hop
   have hT4:=row_below hT3 hbp
   have hown4:=own_below hown3 hbp
   have hb4:=below_call hb3 hb3.size hbp
   have zz4:=hb4.size
   clear hop hbp hown3 hb3 hT3
   go_wp2_with (first | (at_builtin;refine wpList_app _ tyBytes rfl (.tmp 30) (.tmp 35) rfl wx.heap.size _ _ _ rfl hown4 w4.heap.size pA _ pc _ rfl hrp (bytesV_one _) (by have:=HQ.out;have:=HN.out;have:=HLc1.out;omega) hb4.size ?_;intro v5 w5 ho hg _;have hb5:=below_app hb4 (Nat.le_refl _) hown4 hg hb4.size;have hT5:=row_grown hT4 hown4 hg (by decide);obtain ⟨c2,hc2⟩:∃ c,c = c1 ++ Var.put f.name.size:=⟨_,rfl⟩;have hown5:w5.ownsRow wx.heap.size 5 1 v5 c2.length (bytesV c2):=(by rw [hc2,List.length_append,bytesV_append];exact ho);have hlc2:c2.length = c1.length + (Var.put f.name.size).length:=(by rw [hc2,List.length_append]);have Hc2:=hide hc2;have HLc2:=hide hlc2;have g51:=cell_of_row w5 bf 1 _ _ _ hT5;simp at g51;clear ho hg hc2 hlc2) | (at_builtin;refine Go.Lib.wpList_append_own_string _ rfl (.tmp 37) (.tmp 39) 55 9 rfl wx.heap.size 5 ti Tryz.underlying55 Tryz.underlying9 hti hti1 hti2 hti3 _ _ _ rfl hown5 f.name rfl (by have:=HLc2.out;have:=HQ.out;have:=HN.out;have:=HLc1.out;unfold maxLen;omega) (by have:=HLc2.out;have:=HQ.out;have:=HN.out;have:=HLc1.out;omega) hb5.size ?_;intro v6 w6 ho hg _;have hb6:=below_app hb5 (Nat.le_refl _) hown5 hg hb5.size;have hT6:=row_grown hT5 hown5 hg (by decide);obtain ⟨c3,hc3⟩:∃ c,c = c2 ++ f.name.data.toList:=⟨_,rfl⟩;have hown6:w6.ownsRow wx.heap.size 5 1 v6 c3.length (bytesV c3):=(by rw [hc3,List.length_append,bytesV_append];exact ho);have hlc3:c3.length = c2.length + f.name.size:=(by rw [hc3,List.length_append,HQ.out.2.2.2]);have Hc3:=hide hc3;have HLc3:=hide hlc3;have g62:=cell_of_row w6 bf 2 _ _ _ hT6;simp at g62;clear ho hg hc3 hlc3))
   refine (varPut (f.kind.toNat:Int) w6 (by omega) (by omega)).mono ?_
   rintro e w7 ⟨vp,rfl,hop,hbp⟩
   rw [Int.toNat_natCast] at hop
   obtain ⟨pA,pc,rfl,hrp⟩:=Rd.of_own hop
   have hT7:=row_below hT6 hbp
   have hown7:=own_below hown6 hbp
   have hb7:=below_call hb6 hb6.size hbp
   have zz7:=hb7.size
   clear hop hbp hown6 hb6 hT6
   obtain ⟨nd,hnd⟩:∃ nd,nd = f.need:=⟨_,rfl⟩
   rw [← hnd] at hT7
   have HND:=hide hnd
   clear hnd
   cases nd with
   | true =>
     go_wp2_with (first | (at_builtin;refine wpList_app _ tyBytes rfl (.tmp 41) (.tmp 45) rfl wx.heap.size _ _ _ rfl hown7 w7.heap.size pA _ pc _ rfl hrp (bytesV_one _) (by have:=HQ.out;have:=HN.out;have:=HLc1.out;have:=HLc2.out;have:=HLc3.out;omega) hb7.size ?_;intro v8 w8 ho hg _;have hb8:=below_app hb7 (Nat.le_refl _) hown7 hg hb7.size;have hT8:=row_grown hT7 hown7 hg (by decide);obtain ⟨c4,hc4⟩:∃ c,c = c3 ++ Var.put f.kind.toNat:=⟨_,rfl⟩;have hown8:w8.ownsRow wx.heap.size 5 1 v8 c4.length (bytesV c4):=(by rw [hc4,List.length_append,bytesV_append];exact ho);have hlc4:c4.length = c3.length + (Var.put f.kind.toNat).length:=(by rw [hc4,List.length_append]);have Hc4:=hide hc4;have HLc4:=hide hlc4;have g83:=cell_of_row w8 bf 3 _ _ _ hT8;simp at g83;clear ho hg hc4 hlc4) | (at_builtin;have hownL:=hown8.alloc (.cells #[.int .u8 1] 5);have hlit:Rd (w8.alloc (.cells #[.int .u8 1] 5)) (w8.heap.size + 1) 1 (some ⟨w8.heap.size,0,none⟩) 1 1 (bytesV [if true then 1 else 0]):=Rd.lit w8 5 #[.int .u8 1] (n:=1) (sz:=1) rfl (by decide);refine wpList_app _ tyBytes rfl (.tmp 49) (.tmp 51) rfl wx.heap.size _ _ _ rfl hownL (w8.heap.size + 1) _ 1 1 _ rfl hlit (bytesV_one _) (by have:=HQ.out;have:=HN.out;have:=HLc1.out;have:=HLc2.out;have:=HLc3.out;have:=HLc4.out;omega) (by simp;have:=hb8.size;omega) ?_;intro v9 w9 ho hg _;have hbL:=hb8.alloc hb8.size (.cells #[.int .u8 1] 5);have hb9:=below_app hbL (Nat.le_refl _) hownL hg (by simp;have:=hb8.size;omega);obtain ⟨c5,hc5⟩:∃ c,c = c4 ++ [if true then 1 else 0]:=⟨_,rfl⟩;have hown9:w9.ownsRow wx.heap.size 5 1 v9 c5.length (bytesV c5):=(by rw [hc5,List.length_append,bytesV_append];exact ho);have Hc5:=hide hc5;clear ho hg hc5 hlit hownL hbL))
     go_roundw
     case rel =>
      refine ⟨k + 1,c5,v9,rfl,by go_num,by omega,hown9,hide (cur_next hlt hcur.out HF.out Hc1.out Hc2.out Hc3.out Hc4.out (by rw [← HND.out];exact Hc5.out)),?_,hb9⟩
      have:=HLc1.out
      have:=HLc2.out
      have:=HLc3.out
      have:=HLc4.out
      have:=HQ.out
      have:=HN.out
      rw [Hc5.out,List.length_append]
      simp only [List.length_cons,List.length_nil]
      omega
     case measure => exact meas_sub k _ hlt
   | false =>
     go_wp2_with (first | (at_builtin;refine wpList_app _ tyBytes rfl (.tmp 41) (.tmp 45) rfl wx.heap.size _ _ _ rfl hown7 w7.heap.size pA _ pc _ rfl hrp (bytesV_one _) (by have:=HQ.out;have:=HN.out;have:=HLc1.out;have:=HLc2.out;have:=HLc3.out;omega) hb7.size ?_;intro v8 w8 ho hg _;have hb8:=below_app hb7 (Nat.le_refl _) hown7 hg hb7.size;have hT8:=row_grown hT7 hown7 hg (by decide);obtain ⟨c4,hc4⟩:∃ c,c = c3 ++ Var.put f.kind.toNat:=⟨_,rfl⟩;have hown8:w8.ownsRow wx.heap.size 5 1 v8 c4.length (bytesV c4):=(by rw [hc4,List.length_append,bytesV_append];exact ho);have hlc4:c4.length = c3.length + (Var.put f.kind.toNat).length:=(by rw [hc4,List.length_append]);have Hc4:=hide hc4;have HLc4:=hide hlc4;have g83:=cell_of_row w8 bf 3 _ _ _ hT8;simp at g83;clear ho hg hc4 hlc4) | (at_builtin;have hownL:=hown8.alloc (.cells #[.int .u8 0] 5);have hlit:Rd (w8.alloc (.cells #[.int .u8 0] 5)) (w8.heap.size + 1) 1 (some ⟨w8.heap.size,0,none⟩) 1 1 (bytesV [if false then 1 else 0]):=Rd.lit w8 5 #[.int .u8 0] (n:=1) (sz:=1) rfl (by decide);refine wpList_app _ tyBytes rfl (.tmp 49) (.tmp 51) rfl wx.heap.size _ _ _ rfl hownL (w8.heap.size + 1) _ 1 1 _ rfl hlit (bytesV_one _) (by have:=HQ.out;have:=HN.out;have:=HLc1.out;have:=HLc2.out;have:=HLc3.out;have:=HLc4.out;omega) (by simp;have:=hb8.size;omega) ?_;intro v9 w9 ho hg _;have hbL:=hb8.alloc hb8.size (.cells #[.int .u8 0] 5);have hb9:=below_app hbL (Nat.le_refl _) hownL hg (by simp;have:=hb8.size;omega);obtain ⟨c5,hc5⟩:∃ c,c = c4 ++ [if false then 1 else 0]:=⟨_,rfl⟩;have hown9:w9.ownsRow wx.heap.size 5 1 v9 c5.length (bytesV c5):=(by rw [hc5,List.length_append,bytesV_append];exact ho);have Hc5:=hide hc5;clear ho hg hc5 hlit hownL hbL))
     go_roundw
     case rel =>
      refine ⟨k + 1,c5,v9,rfl,by go_num,by omega,hown9,hide (cur_next hlt hcur.out HF.out Hc1.out Hc2.out Hc3.out Hc4.out (by rw [← HND.out];exact Hc5.out)),?_,hb9⟩
      have:=HLc1.out
      have:=HLc2.out
      have:=HLc3.out
      have:=HLc4.out
      have:=HQ.out
      have:=HN.out
      rw [Hc5.out,List.length_append]
      simp only [List.length_cons,List.length_nil]
      omega
     case measure => exact meas_sub k _ hlt
  ·have hlt2:¬ k < l.length:=hlt
   go_wp2_with fail
   go_ret
   refine ⟨_,rfl,?_,hBx.trans (hbr.mono (Nat.le_of_lt (by have:=zx;rw [HBX.out] at this;exact this)))⟩
   have hc:=hcur.out
   rw [show k = l.length by omega,List.take_length] at hc
   have e1:pack id l = cur:=by rw [hc];rfl
   rw [e1]
   exact own_base hown (Nat.le_of_lt (by have:=zx;rw [HBX.out] at this;exact this))

section
namespace Crc
abbrev W:=BitVec 32
def poly:W:=0xedb88320#32
def bit (c:W):W:=(c >>> 1) ^^^ (if c.getLsbD 0 then poly else 0#32)
def bits:Nat → W → W
 | 0,c => c
 | n + 1,c => bits n (bit c)
def byteS (c:W) (x:UInt8):W:=bits 8 (c ^^^ BitVec.ofNat 32 x.toNat)
def tab (n:Nat):W:=[0x00000000#32,0x1db71064#32,0x3b6e20c8#32,0x26d930ac#32,0x76dc4190#32,0x6b6b51f4#32,0x4db26158#32,0x5005713c#32,0xedb88320#32,0xf00f9344#32,0xd6d6a3e8#32,0xcb61b38c#32,0x9b64c2b0#32,0x86d3d2d4#32,0xa00ae278#32,0xbdbdf21c#32].getD n 0#32
def half (c:W):W:=(c >>> 4) ^^^ tab (c.toNat % 16)
def raw (c:W) (l:List UInt8):W:=l.foldl byteS c
def more (c:W) (l:List UInt8):W := ~~~ (raw (~~~ c) l)
def crc (l:List UInt8):W:=more 0#32 l

theorem bit_xor (a b:W):bit (a ^^^ b) = bit a ^^^ bit b:=by
 unfold bit
 rw [BitVec.ushiftRight_xor_distrib,BitVec.getLsbD_xor]
 cases a.getLsbD 0 <;> cases b.getLsbD 0 <;> simp only [Bool.xor_false,Bool.xor_true,Bool.not_true,Bool.not_false,if_true,Bool.false_eq_true,if_false,BitVec.xor_zero]
 ·ac_rfl
 ·ac_rfl
 ·have e:a >>> 1 ^^^ poly ^^^ (b >>> 1 ^^^ poly) = (a >>> 1 ^^^ b >>> 1) ^^^ (poly ^^^ poly):=by ac_rfl
  rw [e,BitVec.xor_self,BitVec.xor_zero]
theorem bits_xor (n:Nat):∀ a b:W,bits n (a ^^^ b) = bits n a ^^^ bits n b:=by
 induction n with
 | zero => intro a b;rfl
 | succ n ih => intro a b;simp only [bits,bit_xor,ih]
theorem bits_add (m n:Nat):∀ c,bits (m + n) c = bits n (bits m c):=by
 induction m with
 | zero => intro c;simp [bits]
 | succ m ih => intro c;rw [Nat.succ_add];simp only [bits,ih]
/-- a number whose lowest bits are none: only halved -/
theorem bits_low (n:Nat):∀ c:W,(∀ i,i < n → c.getLsbD i = false) → bits n c = c >>> n:=by
 induction n with
 | zero => intro c _;simp [bits]
 | succ n ih =>
   intro c h
   have h0:=h 0 (by omega)
   have hb:bit c = c >>> 1:=by unfold bit;rw [h0];simp
   simp only [bits]
   rw [hb,ih]
   ·rw [← BitVec.shiftRight_add,Nat.add_comm]
   ·intro i hi
    rw [BitVec.getLsbD_ushiftRight]
    exact h (1 + i) (by omega)
theorem split (c:W) (n:Nat):c = (c >>> n <<< n) ^^^ (c &&& (BitVec.ofNat 32 (2 ^ n - 1))):=by
 apply BitVec.eq_of_getLsbD_eq
 intro i hi
 simp only [BitVec.getLsbD_xor,BitVec.getLsbD_shiftLeft,BitVec.getLsbD_ushiftRight,BitVec.getLsbD_and,BitVec.getLsbD_ofNat,Nat.testBit_two_pow_sub_one]
 by_cases h:i < n
 ·simp [h,hi]
 ·have e:n + (i - n) = i:=by omega
  simp [h,hi,e]
theorem half_eq (c:W):half c = bits 4 c:=by
 have hs:=split c 4
 have h1:bits 4 (c >>> 4 <<< 4) = c >>> 4:=by
  rw [bits_low 4 _ (by intro i hi;simp [BitVec.getLsbD_shiftLeft,hi])]
  apply BitVec.eq_of_getLsbD_eq
  intro i hi
  simp only [BitVec.getLsbD_shiftLeft,BitVec.getLsbD_ushiftRight]
  by_cases h4:4 + i < 32
  ·have e:4 + (4 + i - 4) = 4 + i:=by omega
   simp [h4]
  ·rw [BitVec.getLsbD_of_ge c (4 + i) (by omega)]
   simp [h4]
 have h2:∀ k,k < 16 → bits 4 (BitVec.ofNat 32 k) = tab k:=by decide +kernel
 have h3:(c &&& BitVec.ofNat 32 (2 ^ 4 - 1)) = BitVec.ofNat 32 (c.toNat % 16):=by
  apply BitVec.eq_of_toNat_eq
  simp only [BitVec.toNat_and,BitVec.toNat_ofNat]
  have:(2 ^ 4 - 1) % 2 ^ 32 = 15:=by decide
  rw [this,show (15:Nat) = 2 ^ 4 - 1 from rfl,Nat.and_two_pow_sub_one_eq_mod]
  omega
 conv => rhs;rw [hs,bits_xor,h1,h3,h2 _ (Nat.mod_lt _ (by omega))]
 rfl
theorem byteS_half (c:W) (x:UInt8):half (half (c ^^^ BitVec.ofNat 32 x.toNat)) = byteS c x:=by
 rw [half_eq,half_eq, ← bits_add];rfl

/-! ### differences -/
theorem raw_append (c:W) (a b:List UInt8):raw c (a ++ b) = raw (raw c a) b:=List.foldl_append ..
end Crc
end


/-- the table of half bytes lies in the program's variable -/
def Table (w:World):Prop := ∀ j,j < 16 → w.cell? ⟨0,j,none⟩ = some (.int .u32 ((Crc.tab j).toNat:Int))
theorem Table.below {B:Nat} {w w':World} (h:Table w) (hb:Below B w w') (hB:0 < B):Table w':=fun j hj => (hb.cell (p:=⟨0,j,none⟩) hB).trans (h j hj)
theorem Table.pos {w:World} (h:Table w):0 < w.heap.size:=World.block_lt_of_cell? w _ (h 0 (by omega))

theorem word_lt (c:Crc.W):c.toNat < 4294967296:=c.isLt
theorem word_xor (a b:Crc.W):bits BinOp.xor .u32 (a.toNat:Int) (b.toNat:Int) = ((a ^^^ b).toNat:Int):=by
 rw [u32_xor_nat _ _ (word_lt a) (word_lt b),BitVec.toNat_xor]

theorem word_not (a:Crc.W):bits BinOp.xor .u32 IntKind.u32.max (a.toNat:Int) = ((~~~ a).toNat:Int):=by
 have h:=word_xor (BitVec.allOnes 32) a
 rw [BitVec.allOnes_xor] at h
 exact h
theorem word_byte (a:Crc.W) (x:UInt8):bits BinOp.xor .u32 (a.toNat:Int) (x.toNat:Int) = ((a ^^^ BitVec.ofNat 32 x.toNat).toNat:Int):=by
 have h:=word_xor a (BitVec.ofNat 32 x.toNat)
 have hx:=x.toNat_lt
 rw [BitVec.toNat_ofNat,Nat.mod_eq_of_lt (by omega)] at h
 exact h
theorem half_step (a:Crc.W):∃ Q T:Nat,Q < 16 ∧ T = (Crc.tab Q).toNat ∧ bits BinOp.and .u32 (a.toNat:Int) 15 = (Q:Int) ∧ bits BinOp.xor .u32 ((a.toNat:Int) / 16) (T:Int) = ((Crc.half a).toNat:Int):=by
 refine ⟨a.toNat % 16,_,Nat.mod_lt _ (by omega),rfl,?_,?_⟩
 ·have h:=u32_and_nat a.toNat 15 (word_lt a) (by omega)
  rw [nat_mask4] at h
  exact h
 ·have e:(a.toNat:Int) / (16:Int) = ((a >>> 4).toNat:Int):=by
   rw [BitVec.toNat_ushiftRight,Nat.shiftRight_eq_div_pow];omega
  rw [e,word_xor]
  rfl
/-- one byte, by half bytes -/
theorem byte_step (a:Crc.W) (x:UInt8):∃ C1 Q1 T1 C2 Q2 T2:Nat,Q1 < 16 ∧ Q2 < 16 ∧ T1 = (Crc.tab Q1).toNat ∧ T2 = (Crc.tab Q2).toNat ∧ C1 < 4294967296 ∧ C2 < 4294967296 ∧
 bits BinOp.xor .u32 (a.toNat:Int) (x.toNat:Int) = (C1:Int) ∧ bits BinOp.and .u32 (C1:Int) 15 = (Q1:Int) ∧ bits BinOp.xor .u32 ((C1:Int) / 16) (T1:Int) = (C2:Int) ∧
 bits BinOp.and .u32 (C2:Int) 15 = (Q2:Int) ∧ bits BinOp.xor .u32 ((C2:Int) / 16) (T2:Int) = ((Crc.byteS a x).toNat:Int):=by
 obtain ⟨Q1,T1,h1,h2,h3,h4⟩:=half_step (a ^^^ BitVec.ofNat 32 x.toNat)
 obtain ⟨Q2,T2,g1,g2,g3,g4⟩:=half_step (Crc.half (a ^^^ BitVec.ofNat 32 x.toNat))
 rw [Crc.byteS_half] at g4
 exact ⟨_,Q1,T1,_,Q2,T2,h1,g1,h2,g2,word_lt _,word_lt _,word_byte a x,h3,h4,g3,g4⟩

theorem crcMore (w:World) (c0:Crc.W) (B n c:Nat) (A:Option Addr) (l:List UInt8) (hr:Rd w B 1 A n c (bytesV l)) (ht:Table w) :
 Calls Tryz.prog 202 #[.int .u32 (c0.toNat:Int),.slice A n c] w fun e w' => e = .returned (.int .u32 ((Crc.more c0 l).toNat:Int)) ∧ w = w':=by
 obtain rfl:n = l.length:=by have:=hr.len;rw [bytesV_length] at this;omega
 have hmax:l.length ≤ 9223372036854775807:=by have h1:=hr.le;have h2:=hr.cap;unfold maxLen at h2;omega
 have HT:=hide ht
 have hn0:=word_not c0
 obtain ⟨N0,hN0⟩:∃ N:Nat,N = (~~~ c0).toNat:=⟨_,rfl⟩
 rw [← hN0] at hn0
 have HN0:=hide hN0
 clear ht hN0
 go_enter Tryz.func202,Tryz.ntmps202
 go_wp2
 clear hn0
 go_loop [0,11] (fun cv iv => ∃ (k C:Nat),k ≤ l.length ∧ iv = .int .i64 k ∧ cv = .int .u32 C ∧ Hid (C = (Crc.raw (~~~ c0) (l.take k)).toNat)) (fun _ iv => l.length - (intOf iv).toNat)
 case atStart => exact ⟨0,N0,Nat.zero_le _,rfl,rfl,hide HN0.out⟩
 case round =>
  obtain ⟨k,C,hk,rfl,rfl,hC⟩:=hrel
  by_cases hlt:k < l.length
  ·obtain ⟨b,off,rfl,_,hc⟩:=hr.cellAt (k:=k) (by rw [bytesV_length];exact hlt)
   obtain ⟨x,hx⟩:∃ x:UInt8,x = l[k]:=⟨_,rfl⟩
   have hc':w.cell? ⟨b,off + k,none⟩ = some (.int .u8 (x.toNat:Int)):=by rw [hc,hx];simp [bytesV,byteV]
   have hst:Crc.raw (~~~ c0) (l.take (k + 1)) = Crc.byteS (Crc.raw (~~~ c0) (l.take k)) x:=by
    rw [List.take_succ_eq_append_getElem hlt,Crc.raw_append, ← hx];rfl
   obtain ⟨C1,Q1,T1,C2,Q2,T2,q1,q2,d1,d2,l1,l2,e1,e2,e3,e4,e5⟩:=byte_step (Crc.raw (~~~ c0) (l.take k)) x
   have t1:=HT.out Q1 q1
   have t2:=HT.out Q2 q2
   rw [← d1] at t1
   rw [← d2] at t2
   rw [← hC.out] at e1
   rw [← hst] at e5
   obtain ⟨C3,hC3⟩:∃ C3,C3 = (Crc.raw (~~~ c0) (l.take (k + 1))).toNat:=⟨_,rfl⟩
   rw [← hC3] at e5
   have HC3:=hide hC3
   have hx256:=x.toNat_lt
   clear hc hx hst d1 d2 hC3
   go_wp2
   go_round
   case rel => exact ⟨k + 1,C3,by omega,by go_num,rfl,HC3⟩
   case measure => simp [intOf];omega
  ·obtain rfl:k = l.length:=by omega
   have hfin:=word_not (Crc.raw (~~~ c0) l)
   have hC':=hC.out
   rw [List.take_length] at hC'
   rw [← hC'] at hfin
   have HF:=hide hfin
   clear hfin hC'
   go_wp2
   go_ret
   refine ⟨?_,rfl⟩
   show Ending.returned (.int .u32 (bits BinOp.xor .u32 IntKind.u32.max (C:Int))) = _
   rw [HF.out]
   rfl
theorem crcOf (w:World) (B n c:Nat) (A:Option Addr) (l:List UInt8) (hr:Rd w B 1 A n c (bytesV l)) (ht:Table w) :
 Calls Tryz.prog 164 #[.slice A n c] w fun e w' => e = .returned (.int .u32 ((Crc.crc l).toNat:Int)) ∧ w = w':=by
 have HT:=hide ht
 clear ht
 go_enter Tryz.func164,Tryz.ntmps164
 go_wp2_with fail
 refine (crcMore w 0#32 B n c A l hr HT.out).mono ?_
 rintro e w1 ⟨rfl,rfl⟩
 go_wp2_with fail
 go_ret
 exact ⟨rfl,rfl⟩


theorem cloneBytes (w:World) (B n c:Nat) (A:Option Addr) (xs:List Value) (hr:Rd w B 1 A n c xs) (h1:∀ u ∈ xs,u.oneCell' = true) (hb:n * 1 ≤ 140737488355328) (hB:B ≤ w.heap.size) :
 Calls Tryz.prog 107 #[.slice A n c] w (RetRow w 5 1 n xs):=by
 have heq:=fun W => Lib.run_eql_slice_nil (P:=Tryz.prog) W 55 5 A n c 0 0 Tryz.underlying55
 cases A with
 | none =>
   obtain ⟨rfl,rfl⟩:=hr.none_
   go_enter Tryz.func107,Tryz.ntmps107
   go_wp2_with fail
   go_ret
   exact ⟨_,rfl,World.ownsRow_nil _ _ _ _,Below.refl _ _⟩
 | some ad =>
   have hlit:=own_lit w (base:=w.heap.size) 5 1 0 #[] (Nat.le_refl _) (by decide) rfl
   have hr':=hr.alloc hB (.cells #[] 5)
   go_enter Tryz.func107,Tryz.ntmps107
   go_wp2_with (at_builtin;refine wpList_app _ tyBytes rfl _ _ rfl w.heap.size _ 0 [] rfl hlit B (some ad) _ c _ rfl hr' h1 (by omega) (by simp) ?_;intro v2 w2 hown2 hg2 _;simp only [Nat.zero_add,List.nil_append] at hown2;have hb2:=below_app ((Below.refl w.heap.size w).alloc (Nat.le_refl _) (.cells #[] 5)) (Nat.le_refl _) hlit hg2 (by simp))
   go_ret
   exact ⟨v2,rfl,hown2,hb2⟩

/-- the sum's four bytes, the lowest first -/
def le4 (c:Crc.W):List UInt8:=[UInt8.ofNat c.toNat,UInt8.ofNat (c.toNat / 256),UInt8.ofNat (c.toNat / 65536),UInt8.ofNat (c.toNat / 16777216)]
def seal_ (l:List UInt8):List UInt8:=l ++ le4 (Crc.crc l)

theorem crcSeal (w:World) (n c:Nat) (A:Option Addr) (l:List UInt8) (hr:Rd w w.heap.size 1 A n c (bytesV l)) (ht:Table w) (hl:l.length ≤ 1000000) :
 Calls Tryz.prog 104 #[.slice A n c] w (RetBytes w (seal_ l)):=by
 obtain rfl:n = l.length:=by have:=hr.len;rw [bytesV_length] at this;omega
 have HT:=hide ht
 clear ht
 go_enter Tryz.func104,Tryz.ntmps104
 go_wp2_with fail
 refine (crcOf w _ _ c A l hr HT.out).mono ?_
 rintro e w1 ⟨rfl,rfl⟩
 go_wp2_with fail
 refine (cloneBytes w _ _ c A _ hr (bytesV_one _) (by omega) (Nat.le_refl _)).mono ?_
 rintro e w2 ⟨v2,rfl,hown2,hb2⟩
 have hq:=word_lt (Crc.crc l)
 have hlen:=hown2.1
 go_wp2_with (at_builtin;refine wpList_app _ tyBytes rfl _ _ rfl w.heap.size v2 _ _ rfl (hown2.alloc _) (w2.heap.size + 1) _ 4 4 _ rfl (Rd.lit w2 5 _ rfl (by decide)) ?h1 ?h2 ?h3 ?_)
 case h1 => exact ⟨rfl,rfl,rfl,rfl⟩
 case h2 => omega
 case h3 => have:=hb2.size;simp;omega
 intro v3 w3 hown3 hg3 _
 have hb3:=below_app (hb2.alloc hb2.size _) (Nat.le_refl _) (hown2.alloc _) hg3 (by have:=hb2.size;simp;omega)
 have e4:bytesV l ++ #[Value.int .u8 (((Crc.crc l).toNat:Int) % 256),.int .u8 (((Crc.crc l).toNat:Int) / 256 % 256),.int .u8 (((Crc.crc l).toNat:Int) / 65536 % 256),.int .u8 (((Crc.crc l).toNat:Int) / 16777216)].toList = bytesV (seal_ l):=by
  unfold seal_ le4
  rw [bytesV_append]
  congr 1
  simp only [bytesV,List.map_cons,List.map_nil,byteV,UInt8.toNat_ofNat',List.cons.injEq,and_true,Value.int.injEq,true_and]
  refine ⟨by omega,by omega,by omega,by omega⟩
 rw [e4] at hown3
 clear hg3 hown2 e4
 go_wp2
 go_ret
 exact ⟨v3,rfl,by simpa [seal_,le4] using hown3,hb3⟩

theorem equalBytes (w:World) (B n c m d:Nat) (A A':Option Addr) (la lb:List UInt8) (ha:Rd w B 1 A n c (bytesV la)) (hb:Rd w B 1 A' m d (bytesV lb)) (hB:B ≤ w.heap.size) :
 Calls Tryz.prog 112 #[.slice A n c,.slice A' m d] w (RetVal w (.bool (la == lb))):=by
 obtain rfl:n = la.length:=by have:=ha.len;rw [bytesV_length] at this;omega
 obtain rfl:m = lb.length:=by have:=hb.len;rw [bytesV_length] at this;omega
 have hmax:la.length ≤ 9223372036854775807:=by have h1:=ha.le;have h2:=ha.cap;unfold maxLen at h2;omega
 by_cases hlen:la.length = lb.length
 ·have t1:((la.length:Int) == (lb.length:Int)) = true:=by simp;omega
  have t1':((la.length:Int) != (lb.length:Int)) = false:=by simp;omega
  have HL:=hide hlen
  clear hlen
  go_enter Tryz.func112,Tryz.ntmps112
  go_wp2_with fail
  go_loopw [13] (fun iv wr => ∃ k:Nat,k ≤ la.length ∧ iv = .int .i64 k ∧ Hid (la.take k = lb.take k) ∧ Below w.heap.size w wr) (fun iv _ => la.length - (intOf iv).toNat)
  case atStart => exact ⟨0,Nat.zero_le _,rfl,hide rfl,Below.refl _ _⟩
  case round =>
   obtain ⟨k,hk,rfl,hpre,hbr⟩:=hrel
   by_cases hlt:k < la.length
   ·have hlt2:k < lb.length:=by have:=HL.out;omega
    obtain ⟨b1,o1,rfl,q1,c1⟩:=ha.cellAt (k:=k) (by rw [bytesV_length];exact hlt)
    obtain ⟨b2,o2,rfl,q2,c2⟩:=hb.cellAt (k:=k) (by rw [bytesV_length];exact hlt2)
    obtain ⟨x,hx⟩:∃ x:UInt8,x = la[k]:=⟨_,rfl⟩
    obtain ⟨y,hy⟩:∃ y:UInt8,y = lb[k]:=⟨_,rfl⟩
    have c1':wr.cell? ⟨b1,o1 + k,none⟩ = some (.int .u8 (x.toNat:Int)):=(hbr.cell (p:=⟨b1,o1 + k,none⟩) (Nat.lt_of_lt_of_le q1 hB)).trans (by rw [c1,hx];simp [bytesV,byteV])
    have c2':wr.cell? ⟨b2,o2 + k,none⟩ = some (.int .u8 (y.toNat:Int)):=(hbr.cell (p:=⟨b2,o2 + k,none⟩) (Nat.lt_of_lt_of_le q2 hB)).trans (by rw [c2,hy];simp [bytesV,byteV])
    have z1:b1 < wr.heap.size:=Nat.lt_of_lt_of_le (Nat.lt_of_lt_of_le q1 hB) hbr.size
    have z2:b2 < wr.heap.size:=Nat.lt_of_lt_of_le (Nat.lt_of_lt_of_le q2 hB) hbr.size
    have HX:=hide hx
    have HY:=hide hy
    clear c1 c2 hx hy
    by_cases hxy:x = y
    ·have t2:((x.toNat:Int) != (y.toNat:Int)) = false:=by rw [hxy];simp
     have hpre':=hide (show la.take (k + 1) = lb.take (k + 1) by rw [List.take_succ_eq_append_getElem hlt,List.take_succ_eq_append_getElem hlt2,hpre.out, ← HX.out, ← HY.out,hxy])
     clear hxy
     go_wp2_with fail
     refine wp_region_abs ext_grow (by kernel_rfl) (by kernel_rfl) ?_
     simp only [List.map_cons,List.map_nil]
     refine wpA_value ext_grow ?_ (fun _ _ h => by cases h) rfl rfl ?_ ?_
     rotate_left 1
     ·intro w' hw' C hC
      go_simp
      try go_bits
      exact hC
     simp only [putS,zC0,zB0]
     refine wpA_value ext_grow ?_ (fun _ _ h => by cases h) rfl rfl ?_ ?_
     rotate_left 1
     ·intro w' hw' C hC
      go_simp
      try go_bits
      exact hC
     simp only [putS,zC0,zB0]
     refine wpA_value ext_grow ?_ (fun _ _ h => by cases h) rfl rfl ?_ ?_
     rotate_left 1
     ·intro w' hw' C hC
      go_simp
      try go_bits
      exact hC
     simp only [putS,zC0,zB0]
     refine wpA_value ext_grow ?_ (fun _ _ h => by cases h) rfl rfl ?_ ?_
     rotate_left 1
     ·intro w' hw' C hC
      have hcw:=(hw'.cell (p:=⟨b1,o1 + k,none⟩) z1).trans c1'
      go_simp
      try go_bits
      exact hC
     simp only [putS,zC0,zB0]
     refine wpA_value ext_grow ?_ (fun _ _ h => by cases h) rfl rfl ?_ ?_
     rotate_left 1
     ·intro w' hw' C hC
      go_simp
      try go_bits
      exact hC
     simp only [putS,zC0,zB0]
     refine wpA_value ext_grow ?_ (fun _ _ h => by cases h) rfl rfl ?_ ?_
     rotate_left 1
     ·intro w' hw' C hC
      go_simp
      try go_bits
      exact hC
     simp only [putS,zC0,zB0]
     refine wpA_value ext_grow ?_ (fun _ _ h => by cases h) rfl rfl ?_ ?_
     rotate_left 1
     ·intro w' hw' C hC
      go_simp
      try go_bits
      exact hC
     simp only [putS,zC0,zB0]
     refine wpA_value ext_grow ?_ (fun _ _ h => by cases h) rfl rfl ?_ ?_
     rotate_left 1
     ·intro w' hw' C hC
      have hcw:=(hw'.cell (p:=⟨b2,o2 + k,none⟩) z2).trans c2'
      go_simp
      try go_bits
      exact hC
     simp only [putS,zC0,zB0]
     refine wpA_value ext_grow ?_ (fun _ _ h => by cases h) rfl rfl ?_ ?_
     rotate_left 1
     ·intro w' hw' C hC
      go_simp
      try go_bits
      exact hC
     simp only [putS,zC0,zB0]
     intro w' hw'
     simp only [openS]
     go_wp2
     go_roundw
     case rel => exact ⟨k + 1,by omega,by go_num,hpre',hbr.trans ((below_of_drew hw').mono hbr.size)⟩
     case measure => simp [intOf];omega
    ·have t2:((x.toNat:Int) != (y.toNat:Int)) = true:=by simp;intro h;exact hxy (UInt8.toNat_inj.1 (by omega))
     have hne:=hide (show (la == lb) = false from beq_eq_false_iff_ne.2 fun h => hxy (by rw [HX.out,HY.out];simp only [h]))
     clear hxy
     go_wp2_with fail
     refine wp_region_abs ext_grow (by kernel_rfl) (by kernel_rfl) ?_
     simp only [List.map_cons,List.map_nil]
     refine wpA_value ext_grow ?_ (fun _ _ h => by cases h) rfl rfl ?_ ?_
     rotate_left 1
     ·intro w' hw' C hC
      go_simp
      try go_bits
      exact hC
     simp only [putS,zC0,zB0]
     refine wpA_value ext_grow ?_ (fun _ _ h => by cases h) rfl rfl ?_ ?_
     rotate_left 1
     ·intro w' hw' C hC
      go_simp
      try go_bits
      exact hC
     simp only [putS,zC0,zB0]
     refine wpA_value ext_grow ?_ (fun _ _ h => by cases h) rfl rfl ?_ ?_
     rotate_left 1
     ·intro w' hw' C hC
      go_simp
      try go_bits
      exact hC
     simp only [putS,zC0,zB0]
     refine wpA_value ext_grow ?_ (fun _ _ h => by cases h) rfl rfl ?_ ?_
     rotate_left 1
     ·intro w' hw' C hC
      have hcw:=(hw'.cell (p:=⟨b1,o1 + k,none⟩) z1).trans c1'
      go_simp
      try go_bits
      exact hC
     simp only [putS,zC0,zB0]
     refine wpA_value ext_grow ?_ (fun _ _ h => by cases h) rfl rfl ?_ ?_
     rotate_left 1
     ·intro w' hw' C hC
      go_simp
      try go_bits
      exact hC
     simp only [putS,zC0,zB0]
     refine wpA_value ext_grow ?_ (fun _ _ h => by cases h) rfl rfl ?_ ?_
     rotate_left 1
     ·intro w' hw' C hC
      go_simp
      try go_bits
      exact hC
     simp only [putS,zC0,zB0]
     refine wpA_value ext_grow ?_ (fun _ _ h => by cases h) rfl rfl ?_ ?_
     rotate_left 1
     ·intro w' hw' C hC
      go_simp
      try go_bits
      exact hC
     simp only [putS,zC0,zB0]
     refine wpA_value ext_grow ?_ (fun _ _ h => by cases h) rfl rfl ?_ ?_
     rotate_left 1
     ·intro w' hw' C hC
      have hcw:=(hw'.cell (p:=⟨b2,o2 + k,none⟩) z2).trans c2'
      go_simp
      try go_bits
      exact hC
     simp only [putS,zC0,zB0]
     refine wpA_value ext_grow ?_ (fun _ _ h => by cases h) rfl rfl ?_ ?_
     rotate_left 1
     ·intro w' hw' C hC
      go_simp
      try go_bits
      exact hC
     simp only [putS,zC0,zB0]
     intro w' hw'
     simp only [openS]
     go_wp2
     go_ret
     exact ⟨by rw [hne.out];rfl,hbr.trans ((below_of_drew hw').mono hbr.size)⟩
   ·have heq:=hide (show (la == lb) = true from beq_iff_eq.2 (by have h1:=hpre.out;have h2:=HL.out;rw [List.take_of_length_le (by omega),List.take_of_length_le (by omega)] at h1;exact h1))
    go_wp2_with fail
    go_ret
    exact ⟨by rw [heq.out];rfl,hbr⟩
 ·have t1:((la.length:Int) != (lb.length:Int)) = true:=by simp;omega
  have hne:=hide (show (la == lb) = false from beq_eq_false_iff_ne.2 fun h => hlen (by rw [h]))
  clear hlen
  go_enter Tryz.func112,Tryz.ntmps112
  go_wp2_with fail
  go_ret
  exact ⟨by rw [hne.out];rfl,Below.refl _ _⟩
end

section
open Go.RowKit

/-- appends to bytes above B were done: whatever is no row of bytes there is as it was -/
structure Bz (B:Nat) (w w':World):Prop where
 os:w'.os = w.os
 tape:w'.tape = w.tape
 output:w'.output = w.output
 size:w.heap.size ≤ w'.heap.size
 blk:∀ k,k < w.heap.size → k < B → w'.heap[k]? = w.heap[k]?
 oth:∀ (k:Nat) (arr:Array Value) (t:TypeId) (f:Nat × Nat),w.heap[k]? = some (Obj.cells arr t f) → t ≠ 5 → w'.heap[k]? = some (Obj.cells arr t f)
section
variable {B:Nat} {u w w':World}
theorem Bz.refl (B:Nat) (w:World):Bz B w w:=⟨rfl,rfl,rfl,Nat.le_refl _,fun _ _ _ => rfl,fun _ _ _ _ h _ => h⟩
theorem Bz.trans (h:Bz B u w) (k:Bz B w w'):Bz B u w' :=
 ⟨k.os.trans h.os,k.tape.trans h.tape,k.output.trans h.output,Nat.le_trans h.size k.size,fun i hi hb => (k.blk i (Nat.lt_of_lt_of_le hi h.size) hb).trans (h.blk i hi hb),fun i arr t f ha hne => k.oth i arr t f (h.oth i arr t f ha hne) hne⟩
theorem Bz.of (h:Below w.heap.size w w'):Bz B w w' :=
 ⟨h.os,h.tape,h.output,h.size,fun k hk _ => h.block k hk,fun k _ _ _ ha _ => (h.block k (Array.getElem?_eq_some_iff.1 ha).1).trans ha⟩
theorem Bz.below (h:Bz B w w') (hB:B ≤ w.heap.size):Below B w w':=⟨h.os,h.tape,h.output,h.size,fun k hk => h.blk k (Nat.lt_of_lt_of_le hk hB) hk⟩
theorem Bz.grown {n:Nat} {v:Value} {xs:List Value} (ho:w.ownsRow B 5 1 v n xs) (hg:w.grownBy w' v.ownBlock):Bz B w w':=by
 refine ⟨hg.os,hg.tape,hg.output,hg.size,fun k hk hb => ?_,fun k arr t f ha hne => ?_⟩
 ·refine hg.block k hk fun q => ?_
  have:=(ho.lt k q.symm).1
  omega
 ·refine (hg.block k (Array.getElem?_eq_some_iff.1 ha).1 fun q => ?_).trans ha
  rcases ho.2 with ⟨rfl,_⟩ | ⟨g,cap,cur,rfl,_,hgc,_⟩
  ·cases q
  ·simp only [Value.ownBlock] at q
   injection q with q
   subst q
   rw [ha] at hgc
   injection hgc with hgc
   injection hgc with _ q2 _
   exact hne q2
theorem BoxT.bz {b:Nat} {cs:List Value} {t:TypeId} (h:BoxT w b cs t) (hb:Bz B w w') (hne:t ≠ 5):BoxT w' b cs t:=by
 obtain ⟨arr,ha⟩:=h.ty
 have hbk:w'.heap[b]? = w.heap[b]?:=(hb.oth b arr t (0,0) ha hne).trans ha.symm
 exact ⟨⟨fun j v hj => (World.cell?_of_block (w:=w) (a:=⟨b,j,none⟩) hbk).trans (h.bx.cell j v hj),fun j hj => (World.frozen?_of_block (w:=w) (a:=⟨b,j,none⟩) hbk).trans (h.bx.free j hj),Nat.lt_of_lt_of_le h.bx.z hb.size⟩,arr,hbk.trans ha⟩
end
/-- bytes of one's own -/
def Buf (B:Nat) (l:List UInt8) (v:Value) (w:World):Prop:=w.ownsRow B 5 1 v l.length (bytesV l)
section
variable {ops:Array Oper} {rest:List Oper} {o:Oper} {a:Act} {Q:Exit → Act → World → Prop} {w:World} {B:Nat} {l news:List UInt8} {v:Value}
/-- 'append(b, x..)' -/
theorem wpList_buf (hgd:o.guard = none) (s x:Operand) (ho:o.op = .call { callee:=.builtin .append,args:=#[s,x],argTypes:=#[55,55] }) (hs:a.eval s = v) (hb:Buf B l v w)
 (A:Option Addr) (m c B2:Nat) (hx:a.eval x = .slice A m c) (hr:Rd w B2 1 A m c (bytesV news)) (hlen:l.length + news.length ≤ 1000000) (hB:B ≤ w.heap.size)
 (h:∀ v' w',Buf B (l ++ news) v' w' → Bz B w w' → wpList Tryz.prog ops Q rest (a.put o.dst v') w'):wpList Tryz.prog ops Q (o :: rest) a w:=by
 obtain rfl:m = news.length:=by have:=hr.len;rw [bytesV_length] at this;omega
 refine wpList_app _ tyBytes hgd s x ho B v _ _ hs hb B2 A _ c _ hx hr (bytesV_one _) (by omega) hB fun v' w' h1 h2 _ => h v' w' ?_ (Bz.grown hb h2)
 unfold Buf
 rw [List.length_append,bytesV_append]
 exact h1
/-- 'append(b, s..)', s a string -/
theorem wpList_bufS (hgd:o.guard = none) (s x:Operand) (ho:o.op = .call { callee:=.builtin .append,args:=#[s,x],argTypes:=#[55,9] }) (hs:a.eval s = v) (hb:Buf B l v w)
 (st:ByteArray) (hx:a.eval x = .string st) (hlen:l.length + st.size ≤ 1000000) (hB:B ≤ w.heap.size)
 (h:∀ v' w',Buf B (l ++ st.data.toList) v' w' → Bz B w w' → wpList Tryz.prog ops Q rest (a.put o.dst v') w'):wpList Tryz.prog ops Q (o :: rest) a w:=by
 obtain ⟨ti,hti,hti1,hti2,hti3⟩:=info_parts tyBytes.inf
 refine Go.Lib.wpList_append_own_string _ hgd s x 55 9 ho B 5 ti Tryz.underlying55 Tryz.underlying9 hti hti1 hti2 hti3 v _ _ hs hb st hx (by unfold maxLen;omega) (by omega) hB fun v' w' h1 h2 _ => h v' w' ?_ (Bz.grown hb h2)
 unfold Buf
 rw [List.length_append,bytesV_append]
 exact h1
end
theorem Buf.keep {w w':World} {B:Nat} {l:List UInt8} {v:Value} (h:Buf B l v w) (hb:Below w.heap.size w w'):Buf B l v w':=own_below h hb
theorem own_slice {w:World} {base sz n:Nat} {e:TypeId} {v:Value} {xs:List Value} (h:w.ownsRow base e sz v n xs):∃ A c,v = .slice A n c:=by
 obtain ⟨A,c,e,_⟩:=Rd.of_own h
 exact ⟨A,c,e⟩
theorem put_pos (n:Nat):0 < (Var.put n).length:=by
 rw [Var.put]
 split <;> simp
theorem wpList_bufNew {ops:Array Oper} {rest:List Oper} {o:Oper} {a:Act} {Q:Exit → Act → World → Prop} {w:World} {B2 b0:Nat} {l news:List UInt8} {v2:Value} (hgd:o.guard = none) (s x:Operand) (ho:o.op = .call { callee:=.builtin .append,args:=#[s,x],argTypes:=#[55,55] })
 (hs:a.eval s = .slice (some ⟨b0,0,none⟩) l.length l.length) (hold:∀ j u,(bytesV l)[j]? = some u → w.cell? ⟨b0,j,none⟩ = some u) (hx:a.eval x = v2) (hown:w.ownsRow B2 5 1 v2 news.length (bytesV news)) (hpos:0 < news.length) (hlen:l.length + news.length ≤ 1000000)
 (h:∀ v' w',Buf w.heap.size (l ++ news) v' w' → Below w.heap.size w w' → wpList Tryz.prog ops Q rest (a.put o.dst v') w'):wpList Tryz.prog ops Q (o :: rest) a w:=by
 obtain ⟨ti,hti,hti1,hti2,hti3⟩:=info_parts tyBytes.inf
 obtain ⟨g,c,rfl,_,_⟩:=hown.form hpos
 refine wpList_append_grows _ hgd s x 55 ho 5 ti _ 1 1 Tryz.underlying55 hti hti1 hti2 hti3 tyBytes.zs (by decide) (some ⟨b0,0,none⟩) l.length l.length (bytesV l) hs (by simp) (by rw [bytesV_length,Nat.mul_one]) (fun b hb j u hj => ?_) ⟨g,0,none⟩ news.length c (bytesV news) hx (by rw [bytesV_length,Nat.mul_one]) (fun j u hj => ?_) (bytesV_one _) (by omega) (by unfold maxLen;omega) (by omega) (fun v' w' h1 h2 => h v' w' ?_ ⟨h2.os,h2.tape,h2.output,h2.size,fun k hk => h2.block k hk (by simp)⟩)
 ·injection hb with hb
  subst hb
  rw [Addr.add_lit,Nat.zero_add]
  exact hold j u hj
 ·rw [Addr.add_lit,Nat.zero_add]
  have hjl:j < (bytesV news).length:=(List.getElem?_eq_some_iff.1 hj).1
  rw [hown.cellAt j (by rw [bytesV_length] at hjl;omega)]
  exact hj
 ·unfold Buf
  rw [List.length_append,bytesV_append]
  exact h1
/-! ### a table's bytes -/
def tx (s:ByteArray):List UInt8:=Var.put s.size ++ s.data.toList
def txs (l:List ByteArray):List UInt8:=l.flatMap tx
def nums (p:Sn):List Nat:=[p.id.toNat,p.par.toNat,p.seq.toNat,p.off.toNat,p.tim.toNat,p.sch.toNat,p.ms.length]
def putAll (l:List Nat):List UInt8:=l.flatMap Var.put
def snB (p:Sn):List UInt8:=putAll (nums p) ++ txs p.ms
def snBs (l:List Sn):List UInt8:=l.flatMap snB
def packs (l:List Ps):List UInt8:=l.flatMap fun s => pack s.1 s.2
def tf1:List UInt8:=[84,70,49]
def wr0 (ss:List Ps):List UInt8:=tf1 ++ Var.put ss.length
def wr1 (ss:List Ps) (ns:List Sn):List UInt8:=wr0 ss ++ packs ss ++ Var.put ns.length
def wrT (ss:List Ps) (ns:List Sn):List UInt8:=wr1 ss ns ++ snBs ns
section
variable {α:Type} {f : α → List UInt8} {l:List α} {k:Nat}
theorem flat_next [Inhabited α] (hk:k < l.length):(l.take (k + 1)).flatMap f = (l.take k).flatMap f ++ f (l.getD k default):=by
 rw [List.take_add_one,List.flatMap_append]
 simp [hk,List.getD]
theorem flat_le {m:Nat} (h:∀ a ∈ l,(f a).length ≤ m):(l.flatMap f).length ≤ l.length * m:=by
 induction l with
 | nil => simp
 | cons a l ih =>
   rw [List.flatMap_cons,List.length_append,List.length_cons,Nat.succ_mul]
   have h1:=h a (by simp)
   have h2:=ih (fun b hb => h b (by simp [hb]))
   omega
end
theorem put_le10' (n:Nat) (h:n < 18446744073709551616):(Var.put n).length ≤ 10:=Var.put_le10 h
theorem pack_le {id:UInt32} {l:List Fd} (h:check id l = 0):(pack id l).length ≤ 400:=by
 have h8:=(check_len h).2.2
 have hn:=check_names h
 have hid:=id.toNat_lt
 have e1:=put_le10' id.toNat (by omega)
 have e2:=put_le10' l.length (by omega)
 have e3:(packFs l).length ≤ l.length * 47:=flat_le fun f hf => by
  have hs:=hn f hf
  have a1:=put_le10' f.id.toNat (by have:=f.id.toNat_lt;omega)
  have a2:=put_le10' f.name.size (by omega)
  have a3:=put_le10' f.kind.toNat (by have:=f.kind.toNat_lt;omega)
  have a4:f.name.data.toList.length = f.name.size:=by rw [Array.length_toList];rfl
  unfold packF
  simp only [List.length_append,List.length_cons,List.length_nil]
  omega
 unfold pack
 simp only [List.length_append]
 have:l.length * 47 ≤ 8 * 47:=Nat.mul_le_mul_right _ h8
 omega
theorem path_le {s:ByteArray} (h:pathOk s = true):s.size ≤ 24:=by
 unfold pathOk at h
 simp only [Bool.and_eq_true,decide_eq_true_eq] at h
 exact h.1.2
theorem tx_le {s:ByteArray} (h:s.size ≤ 24):(tx s).length ≤ 34:=by
 have e1:=put_le10' s.size (by omega)
 have a4:s.data.toList.length = s.size:=by rw [Array.length_toList];rfl
 unfold tx
 rw [List.length_append]
 omega
theorem names_at {l:List ByteArray} (h:namesOk l = true):l.length ≤ 8 ∧ ∀ s ∈ l,s.size ≤ 24:=by
 refine ⟨names_len h,fun s hs => ?_⟩
 obtain ⟨j,hj,rfl⟩:=List.mem_iff_getElem.1 hs
 unfold namesOk at h
 simp only [Bool.and_eq_true,decide_eq_true_eq,List.all_eq_true,List.mem_range] at h
 have:=(h.2 j hj).1
 rw [getD_at _ _ hj] at this
 exact path_le this
theorem txs_le {l:List ByteArray} (h:namesOk l = true):(txs l).length ≤ 272:=by
 obtain ⟨h8,hs⟩:=names_at h
 have e:(txs l).length ≤ l.length * 34:=flat_le fun s hm => tx_le (hs s hm)
 have:l.length * 34 ≤ 8 * 34:=Nat.mul_le_mul_right _ h8
 omega
theorem nums_le {p:Sn} (h:p.ms.length ≤ 8):∀ n ∈ nums p,n < 18446744073709551616:=by
 have:=p.id.toNat_lt
 have:=p.par.toNat_lt
 have:=p.seq.toNat_lt
 have:=p.off.toNat_lt
 have:=p.tim.toNat_lt
 have:=p.sch.toNat_lt
 intro n hn
 simp only [nums,List.mem_cons,List.mem_nil_iff,or_false] at hn
 rcases hn with rfl | rfl | rfl | rfl | rfl | rfl | rfl <;> omega
theorem putAll_le {l:List Nat} (h:∀ n ∈ l,n < 18446744073709551616):(putAll l).length ≤ l.length * 10:=flat_le fun n hn => put_le10' n (h n hn)
theorem snB_le {p:Sn} (h:namesOk p.ms = true):(snB p).length ≤ 342:=by
 have h1:=putAll_le (nums_le (names_len h))
 have h2:=txs_le h
 have h3:(nums p).length = 7:=rfl
 unfold snB
 rw [List.length_append]
 omega
/-- what a table that may be has -/
theorem right_has {ss:List Ps} {ns:List Sn} {cur:Nat} (h:rightP ss ns cur = true):(1 ≤ ss.length ∧ ss.length ≤ 16 ∧ ns.length ≤ 32) ∧ (∀ s ∈ ss,check s.1 s.2 = 0) ∧ ∀ s ∈ ns,namesOk s.ms = true:=by
 unfold rightP at h
 simp only [Bool.and_eq_true,decide_eq_true_eq,List.all_eq_true,List.mem_range] at h
 obtain ⟨hl,hs,hn,hc⟩:=h
 refine ⟨hl,fun s hm => ?_,fun s hm => ?_⟩
 ·obtain ⟨j,hj,rfl⟩:=List.mem_iff_getElem.1 hm
  have:=hs j hj
  unfold sOk at this
  simp only [Bool.and_eq_true,decide_eq_true_eq] at this
  have h1:=this.1
  rw [getD_at _ _ hj] at h1
  exact h1
 ·obtain ⟨j,hj,rfl⟩:=List.mem_iff_getElem.1 hm
  have:=hn j hj
  unfold nOk at this
  simp only [Bool.and_eq_true,decide_eq_true_eq] at this
  have h1:=this.2.2.2.2.2.2.2.2.1
  rw [getD_at _ _ hj] at h1
  exact h1
theorem packs_le {ss:List Ps} (h:∀ s ∈ ss,check s.1 s.2 = 0):(packs ss).length ≤ ss.length * 400:=flat_le fun s hs => pack_le (h s hs)
theorem snBs_le {ns:List Sn} (h:∀ s ∈ ns,namesOk s.ms = true):(snBs ns).length ≤ ns.length * 342:=flat_le fun s hs => snB_le (h s hs)
theorem sized_of {id:UInt32} {l:List Fd} (h:check id l = 0):Sized l:=by
 refine ⟨by have:=(check_len h).2.2;omega,fun j hj => ?_⟩
 have:=check_names h (l.getD j default) (getD_mem hj)
 omega
/-- a table's bytes, sealed -/
def wrS (ss:List Ps) (ns:List Sn):List UInt8:=seal_ (wrT ss ns)
def WrEnd (w:World) (ss:List Ps) (ns:List Sn) (cur:Nat) (e:Ending) (w':World):Prop :=
 (rightP ss ns cur = true ∧ ∃ v,e = .returned (.tuple #[v,.int .i64 0]) ∧ w'.ownsRow w.heap.size 5 1 v (wrS ss ns).length (bytesV (wrS ss ns)) ∧ Below w.heap.size w w') ∨
 (rightP ss ns cur = false ∧ e = .returned (.tuple #[.slice none 0 0,.int .i64 1]) ∧ Below w.heap.size w w')
end
end Go.Proofs.YtpfofefecamkfaaGreatDoor
