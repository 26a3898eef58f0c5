/- WHAT SERVES THE TABLES' STATEMENTS, part 3: D3. No statement of the seat is proved here. -/
import Derived.Test.YtpfofefecamkfaaGreatDoorG2
import Derived.Deep.RegionHeld3
import Derived.Lib.SliceRun
namespace Go.Proofs.YtpfofefecamkfaaGreatDoor
open Go.RowKit
set_option maxRecDepth 100000

section

theorem range_bad {n k:Nat} {p:Nat → Bool} (hk:k < n) (h:p k = false):(List.range n).all p = false:=by
 rw [List.all_eq_false]
 exact ⟨k,List.mem_range.2 hk,by rw [h];simp⟩
theorem range_good {n:Nat} {p:Nat → Bool} (h:∀ j,j < n → p j = true):(List.range n).all p = true:=by
 rw [List.all_eq_true]
 exact fun j hj => h j (List.mem_range.1 hj)
/-- two lists of fields: the same? -/
def fdsEq (l1 l2:List Fd):Bool:=decide (l1.length = l2.length) && (List.range l1.length).all fun j => fdEq (l1.getD j default) (l2.getD j default)
set_option maxHeartbeats 2000000 in
theorem equalF (w:World) (B n1 c1 n2 c2:Nat) (A1 A2:Option Addr) (l1 l2:List Fd) (hr1:Rd w B 4 A1 n1 c1 (fdsV l1)) (hr2:Rd w B 4 A2 n2 c2 (fdsV l2)) (hB:B ≤ w.heap.size) (hmax:l1.length ≤ 1000000) :
 Calls Tryz.prog 165 #[.slice A1 n1 c1,.slice A2 n2 c2] w fun e w' => e = .returned (.bool (fdsEq l1 l2)) ∧ Below w.heap.size w w':=by
 obtain rfl:=hr1.lenF
 obtain rfl:=hr2.lenF
 have hr1:=hr1.more hB
 have hr2:=hr2.more hB
 by_cases g2:l1.length = l2.length
 ·have y2:((l1.length:Int) != (l2.length:Int)) = false:=by rw [bne_eq_false_iff_eq];omega
  have hs:fdsEq l1 l2 = (List.range l1.length).all fun j => fdEq (l1.getD j default) (l2.getD j default):=by
   unfold fdsEq
   rw [decide_eq_true g2,Bool.true_and]
  rw [hs]
  have HG:=hide g2
  clear g2 hs
  go_enter Tryz.func165,Tryz.ntmps165
  go_wp2_with fail
  go_loopw [13] (fun iv wr => ∃ k:Nat,k ≤ l1.length ∧ iv = .int .i64 (k:Int) ∧ Hid (∀ j,j < k → fdEq (l1.getD j default) (l2.getD j default) = true) ∧ Below w.heap.size w wr) (fun iv _ => l1.length - (intOf iv).toNat)
  case atStart => exact ⟨0,Nat.zero_le _,rfl,hide (fun j h => by omega),Below.refl _ _⟩
  case round =>
   obtain ⟨k,hk,rfl,hf,hbr⟩:=hrel
   by_cases hlt:k < l1.length
   ·have hlt2:k < l2.length:=by have:=HG.out;omega
    obtain ⟨b1,o1,rfl,hbb1,p0,p1,p2,p3⟩:=(hr1.below hbr).fd hlt
    obtain ⟨b2,o2,rfl,hbb2,q0,q1,q2,q3⟩:=(hr2.below hbr).fd hlt2
    generalize hff:l1.getD k default = f at *
    generalize hgg:l2.getD k default = f2 at *
    have HF:=hide (And.intro hff hgg)
    clear hff hgg
    have hne:=neq_fd f f2
    cases hq:fdEq f f2 with
    | true =>
      rw [hq,Bool.not_true] at hne
      have HQ:=hide hq
      clear hq
      go_wp2_with fail
      go_quiet (fail)
      go_wp2_with fail
      go_roundw
      case rel =>
       refine ⟨k + 1,hlt,by go_num,hide (fun j hj => ?_),below_dN hbr _⟩
       by_cases e:j = k
       ·rw [e,HF.out.1,HF.out.2];exact HQ.out
       ·exact hf.out j (by omega)
      case measure => exact meas_sub k _ hlt
    | false =>
      rw [hq,Bool.not_false] at hne
      have HQ:=hide hq
      clear hq
      have hall:Hid (((List.range l1.length).all fun j => fdEq (l1.getD j default) (l2.getD j default)) = false):=hide (range_bad hlt (by rw [HF.out.1,HF.out.2,HQ.out]))
      go_wp2_with fail
      go_quiet (fail)
      go_wp2_with fail
      go_ret
      exact ⟨by rw [hall.out];rfl,below_dN hbr _⟩
   ·obtain rfl:k = l1.length:=by omega
    have hall:Hid (((List.range l1.length).all fun j => fdEq (l1.getD j default) (l2.getD j default)) = true):=hide (range_good hf.out)
    go_wp2_with fail
    go_ret
    exact ⟨by rw [hall.out];rfl,hbr⟩
 ·have y2:((l1.length:Int) != (l2.length:Int)) = true:=by rw [bne_iff_ne];omega
  have hs:fdsEq l1 l2 = false:=by unfold fdsEq;rw [decide_eq_false g2];rfl
  rw [hs]
  clear g2 hs
  go_enter Tryz.func165,Tryz.ntmps165
  go_wp2_with fail
  go_ret
  exact ⟨rfl,Below.refl _ _⟩
/-- may they be a snapshot's names? -/
def namesOk (l:List ByteArray):Bool:=decide (l.length ≤ 8) && (List.range l.length).all fun i => pathOk (l.getD i default) && !((l.take i).any fun y => (l.getD i default).toList == y.toList)
set_option maxHeartbeats 2000000 in
theorem metaNames (w:World) (n c:Nat) (A:Option Addr) (l:List ByteArray) (hr:Rd w w.heap.size 1 A n c (strsV l)) :
 Calls Tryz.prog 166 #[.slice A n c] w fun e w' => e = .returned (.bool (namesOk l)) ∧ Below w.heap.size w w':=by
 obtain rfl:=hr.lenT
 by_cases g8:l.length ≤ 8
 ·have t1:decide ((8:Int) < (l.length:Int)) = false:=decide_eq_false (by omega)
  have hs:namesOk l = (List.range l.length).all fun i => pathOk (l.getD i default) && !((l.take i).any fun y => (l.getD i default).toList == y.toList):=by
   unfold namesOk
   rw [decide_eq_true g8,Bool.true_and]
  obtain ⟨res,hres⟩:∃ res,res = namesOk l:=⟨_,rfl⟩
  rw [← hres]
  rw [hs] at hres
  have HRES:=hide hres
  clear hs hres
  go_enter Tryz.func166,Tryz.ntmps166
  go_wp2_with fail
  go_loopw [10] (fun iv wr => ∃ k:Nat,k ≤ l.length ∧ iv = .int .i64 (k:Int) ∧ Hid (∀ j,j < k → (fun i => pathOk (l.getD i default) && !((l.take i).any fun y => (l.getD i default).toList == y.toList)) j = true) ∧ Below w.heap.size w wr) (fun iv _ => l.length - (intOf iv).toNat)
  case atStart => exact ⟨0,Nat.zero_le _,rfl,hide (fun j h => by omega),Below.refl _ _⟩
  case round =>
   obtain ⟨k,hk,rfl,hf,hbr⟩:=hrel
   by_cases hlt:k < l.length
   ·have hrr:=(hr.below hbr).more hbr.size
    obtain ⟨b1,o1,rfl,hbb1,p0⟩:=hrr.st hlt
    have hcut:=fun W => cut_hi tyStrs (some ⟨b1,o1,none⟩) l.length c .i64 (k:Int) k rfl (by have:=hr.le;omega) W
    have hcut2:=fun W => run_cut_hi tyStrs (some ⟨b1,o1,none⟩) l.length c .i64 (k:Int) k rfl (by have:=hr.le;omega) W
    have hpre:Rd wr wr.heap.size 1 (some ⟨b1,o1,none⟩) k c (strsV (l.take k)):=by
     have:=hrr.pre (hi:=k) (by omega)
     simpa [strsV,List.map_take] using this
    have HPRE:=hide hpre
    clear hpre
    obtain ⟨x,hx⟩:∃ x,x = l.getD k default:=⟨_,rfl⟩
    rw [← hx] at p0
    have HX:=hide hx
    clear hx
    go_wp2_with fail
    refine (metaNamed wr x).mono ?_
    rintro e w1 ⟨rfl,hb1⟩
    cases hq:pathOk x with
    | false =>
      have hall:Hid (((List.range l.length).all fun i => pathOk (l.getD i default) && !((l.take i).any fun y => (l.getD i default).toList == y.toList)) = false):=hide (range_bad hlt (by rw [← HX.out,hq];rfl))
      clear hq
      go_wp2_with fail
      go_ret
      exact ⟨by rw [HRES.out,hall.out];rfl,below_call hbr hbr.size hb1⟩
    | true =>
      have HQ:=hide hq
      clear hq
      go_wp2_with fail
      refine (containsT w1 wr.heap.size k c _ (l.take k) (HPRE.out.below hb1) (by simp;omega) x).mono ?_
      rintro e w2 ⟨rfl,rfl⟩
      cases ha:(l.take k).any fun y => x.toList == y.toList with
      | true =>
        have hall:Hid (((List.range l.length).all fun i => pathOk (l.getD i default) && !((l.take i).any fun y => (l.getD i default).toList == y.toList)) = false):=hide (range_bad hlt (by rw [← HX.out,ha,HQ.out];rfl))
        clear ha
        go_wp2_with fail
        go_ret
        exact ⟨by rw [HRES.out,hall.out];rfl,below_call hbr hbr.size hb1⟩
      | false =>
        have HA:=hide ha
        clear ha
        go_wp2_with fail
        go_roundw
        case rel =>
         refine ⟨k + 1,hlt,by go_num,hide (fun j hj => ?_),below_call hbr hbr.size hb1⟩
         by_cases e:j = k
         ·rw [e,← HX.out];rw [HQ.out,HA.out];rfl
         ·exact hf.out j (by omega)
        case measure => exact meas_sub k _ hlt
   ·obtain rfl:k = l.length:=by omega
    have hall:Hid (((List.range l.length).all fun i => pathOk (l.getD i default) && !((l.take i).any fun y => (l.getD i default).toList == y.toList)) = true):=hide (range_good hf.out)
    go_wp2_with fail
    go_ret
    exact ⟨by rw [HRES.out,hall.out];rfl,hbr⟩
 ·have t1:decide ((8:Int) < (l.length:Int)) = true:=decide_eq_true (by omega)
  have hs:namesOk l = false:=by unfold namesOk;rw [decide_eq_false g8];rfl
  rw [hs]
  clear g8 hs
  go_enter Tryz.func166,Tryz.ntmps166
  go_wp2_with fail
  go_ret
  exact ⟨rfl,Below.refl _ _⟩


def nowIx (ns:List Nl) (cur:UInt64):Int:=if cur.toNat = 0 then -1 else sIx ns cur
set_option maxHeartbeats 1000000 in
theorem metaNow (w:World) (sA:Option Addr) (sc:Nat) (ss:List Sl) (nA:Option Addr) (nc:Nat) (ns:List Nl) (cur:UInt64) (hT:TabR w w.heap.size sA sc ss nA nc ns) (hmax:ns.length ≤ 1000000) (hm:∀ s ∈ ns,s.p.ms.length ≤ 1000000) :
 Calls Tryz.prog 93 #[.agg #[.slice sA ss.length sc,.slice nA ns.length nc,.int .u64 (cur.toNat:Int)]] w (SnapEnd w ns (nowIx ns cur)):=by
 by_cases h0:cur.toNat = 0
 ·have t1:((cur.toNat:Int) == 0) = true:=by rw [h0];rfl
  have HS:Hid (nowIx ns cur = -1):=hide (by unfold nowIx;rw [if_pos h0])
  clear h0
  go_enter Tryz.func93,Tryz.ntmps93
  go_wp2_with fail
  (try simp only [Exit.inBlock,Exit.then])
  have hb1:=(Below.refl w.heap.size w).alloc (Nat.le_refl _) (.cells #[.slice sA ss.length sc,.slice nA ns.length nc,.int .u64 (cur.toNat:Int)] 39)
  have hz1:(w.alloc (.cells #[.slice sA ss.length sc,.slice nA ns.length nc,.int .u64 (cur.toNat:Int)] 39)).heap.size = w.heap.size + 1:=by simp
  generalize w.alloc (.cells #[.slice sA ss.length sc,.slice nA ns.length nc,.int .u64 (cur.toNat:Int)] 39) = w1 at *
  have x2:=boxN_new w1 #[.int .u64 0,.int .u64 0,.int .u64 0,.int .u64 0,.int .u64 0,.int .u32 0,.slice none 0 0] 43
  have hb2:=hb1.alloc hb1.size (.cells #[.int .u64 0,.int .u64 0,.int .u64 0,.int .u64 0,.int .u64 0,.int .u32 0,.slice none 0 0] 43)
  rw [← hz1]
  refine bodyPost_ret (ret_sn2 (b:=w1.heap.size) rfl _ _ rfl x2) rfl ?_
  rw [HS.out]
  exact ⟨none,0,rfl,World.ownsRow_nil _ _ _ _,hb2⟩
 ·have t1:((cur.toNat:Int) == 0) = false:=by rw [beq_eq_false_iff_ne];omega
  have HS:Hid (nowIx ns cur = sIx ns cur):=hide (by unfold nowIx;rw [if_neg h0])
  clear h0
  go_enter Tryz.func93,Tryz.ntmps93
  go_wp2_with fail
  have hb1:=(Below.refl w.heap.size w).alloc (Nat.le_refl _) (.cells #[.slice sA ss.length sc,.slice nA ns.length nc,.int .u64 (cur.toNat:Int)] 39)
  have hz1:(w.alloc (.cells #[.slice sA ss.length sc,.slice nA ns.length nc,.int .u64 (cur.toNat:Int)] 39)).heap.size = w.heap.size + 1:=by simp
  generalize w.alloc (.cells #[.slice sA ss.length sc,.slice nA ns.length nc,.int .u64 (cur.toNat:Int)] 39) = w1 at *
  have x2:=boxN_new w1 #[.int .u64 0,.int .u64 0,.int .u64 0,.int .u64 0,.int .u64 0,.int .u32 0,.slice none 0 0] 43
  have hb2:=hb1.alloc hb1.size (.cells #[.int .u64 0,.int .u64 0,.int .u64 0,.int .u64 0,.int .u64 0,.int .u32 0,.slice none 0 0] 43)
  generalize w1.alloc (.cells #[.int .u64 0,.int .u64 0,.int .u64 0,.int .u64 0,.int .u64 0,.int .u32 0,.slice none 0 0] 43) = w2 at *
  rw [← hz1]
  have hw1:w.heap.size ≤ w1.heap.size:=by omega
  generalize w1.heap.size = b2 at *
  have hT2:=hT.later hb2
  clear hT hz1 hb1
  refine (metaSnap w2 sA sc ss nA nc ns cur.toNat hT2 hmax hm cur).mono ?_
  rintro e w3 ⟨A3,c3,rfl,hown3,hb3⟩
  obtain ⟨i,hi⟩:∃ i,i = sIx ns cur:=⟨_,rfl⟩
  rw [← hi] at hown3 ⊢
  have HI:=hide hi
  have X3:=x2.keep hb3 x2.z
  have g0:=X3.cell 0 _ rfl
  have k0:=X3.free 0 (by simp)
  have g1:=X3.cell 1 _ rfl
  have k1:=X3.free 1 (by simp)
  have g2:=X3.cell 2 _ rfl
  have k2:=X3.free 2 (by simp)
  have g3:=X3.cell 3 _ rfl
  have k3:=X3.free 3 (by simp)
  have g4:=X3.cell 4 _ rfl
  have k4:=X3.free 4 (by simp)
  have g5:=X3.cell 5 _ rfl
  have k5:=X3.free 5 (by simp)
  have g6:=X3.cell 6 _ rfl
  have k6:=X3.free 6 (by simp)
  have hB3:=below_call hb2 hb2.size hb3
  have HX:=hide X3
  clear hi X3 hb3 hb2 hT2
  obtain ⟨db,hdb⟩:∃ db,db = decide (0 ≤ i):=⟨_,rfl⟩
  rw [← hdb]
  have HDB:=hide hdb
  generalize hq:snAt ns i = q at *
  have HQ:=hide hq
  have HO:=hide hown3
  have hz2:b2 < w2.heap.size:=x2.z
  have hw2:w.heap.size ≤ w2.heap.size:=by omega
  clear hq hdb hown3 x2
  go_wp2_with fail
  (try simp only [Exit.inBlock,Exit.then])
  refine bodyPost_ret (ret_sn2 (b:=b2) rfl _ _ rfl HX.out.set7) rfl ?_
  rw [HS.out,← HI.out]
  refine ⟨A3,c3,?_,?_,below_set7 hB3 hw1⟩
  ·rw [HQ.out,HDB.out];rfl
  ·rw [HQ.out];exact own_base (own_set7 HO.out hz2) hw2


def slId (ss:List Sl) (i:Int):UInt32:=if 0 ≤ i then (ss.getD i.toNat default).id else 0
def slFs (ss:List Sl) (i:Int):List Fd:=if 0 ≤ i then (ss.getD i.toNat default).fs else []
def ShapeEnd (w:World) (ss:List Sl) (i:Int) (e:Ending) (w':World):Prop :=
 ∃ F fc,e = .returned (.tuple #[.agg #[.int .u32 ((slId ss i).toNat:Int),.slice F (slFs ss i).length fc],.bool (decide (0 ≤ i))]) ∧ w'.ownsRow w.heap.size 89 4 (.slice F (slFs ss i).length fc) (slFs ss i).length (fdsV (slFs ss i)) ∧ Below w.heap.size w w'
theorem set2_keep' {W:World} {b:Nat} {p:Addr} {v:Option Value} (hne:p.block ≠ b) (h:W.cell? p = v) (x y:Value):((W.setCell ⟨b,0,none⟩ x).setCell ⟨b,1,none⟩ y).cell? p = v:=by
 rw [World.cell?_setCell_other,World.cell?_setCell_other]
 ·exact h
 ·intro q;exact hne (by rw [← q])
 ·intro q;exact hne (by rw [← q])
set_option maxHeartbeats 1000000 in
theorem metaShape (w:World) (sA:Option Addr) (sc:Nat) (ss:List Sl) (nA:Option Addr) (nc:Nat) (ns:List Nl) (cur:Nat) (hT:TabR w w.heap.size sA sc ss nA nc ns) (hmax:ss.length ≤ 1000000) (hm:∀ s ∈ ss,s.fs.length ≤ 1000000) (id:UInt32) :
 Calls Tryz.prog 167 #[.agg #[.slice sA ss.length sc,.slice nA ns.length nc,.int .u64 (cur:Int)],.int .u32 (id.toNat:Int)] w (ShapeEnd w ss (cIx ss id)):=by
 go_enter Tryz.func167,Tryz.ntmps167
 go_wp2_with fail
 have x1:=boxN_new w #[.slice sA ss.length sc,.slice nA ns.length nc,.int .u64 (cur:Int)] 39
 have hb1:=(Below.refl w.heap.size w).alloc (Nat.le_refl _) (.cells #[.slice sA ss.length sc,.slice nA ns.length nc,.int .u64 (cur:Int)] 39)
 have hz1:(w.alloc (.cells #[.slice sA ss.length sc,.slice nA ns.length nc,.int .u64 (cur:Int)] 39)).heap.size = w.heap.size + 1:=by simp
 generalize w.alloc (.cells #[.slice sA ss.length sc,.slice nA ns.length nc,.int .u64 (cur:Int)] 39) = w1 at *
 have x2:=boxN_new w1 #[.int .u32 (id.toNat:Int)] 30
 have hb2:=(Below.refl w1.heap.size w1).alloc (Nat.le_refl _) (.cells #[.int .u32 (id.toNat:Int)] 30)
 have hz2:(w1.alloc (.cells #[.int .u32 (id.toNat:Int)] 30)).heap.size = w1.heap.size + 1:=by simp
 have x1b:=x1.keep hb2 x1.z
 have hB2:=below_call hb1 hb1.size hb2
 generalize w1.alloc (.cells #[.int .u32 (id.toNat:Int)] 30) = w2 at *
 have x3:=boxN_new w2 #[.int .u32 0,.slice none 0 0] 33
 have hb3:=(Below.refl w2.heap.size w2).alloc (Nat.le_refl _) (.cells #[.int .u32 0,.slice none 0 0] 33)
 have hz3:(w2.alloc (.cells #[.int .u32 0,.slice none 0 0] 33)).heap.size = w2.heap.size + 1:=by simp
 have x1c:=x1b.keep hb3 x1b.z
 have x2c:=x2.keep hb3 x2.z
 have hB3:=below_call hB2 hB2.size hb3
 generalize w2.alloc (.cells #[.int .u32 0,.slice none 0 0] 33) = w3 at *
 have hT3:=hT.later hB3
 rw [← hz1,← hz2]
 have z12:w.heap.size < w1.heap.size:=by omega
 have z23:w1.heap.size < w2.heap.size:=by omega
 have z34:w2.heap.size < w3.heap.size:=by omega
 have hw1:w.heap.size ≤ w2.heap.size:=by omega
 generalize hb1e:w.heap.size = b1 at *
 generalize w1.heap.size = b2 at *
 generalize w2.heap.size = b3 at *
 have H1:=hide hb1e
 clear hz1 hz2 hz3 hb1 hb2 hb3 x1 x1b x2 hB2 hT hb1e
 refine (indexS w3 _ sc sA ss hT3.srow hmax 205 _ _ enter75 (predShape w3 b2 id x2c.z (x2c.cell 0 _ rfl))).mono ?_
 rintro e w4 ⟨rfl,hb4⟩
 obtain ⟨i,hi⟩:∃ i,i = cIx ss id:=⟨_,rfl⟩
 have hi2:=hi
 unfold cIx at hi2
 rw [← hi2]
 have HI:=hide hi
 have HI2:=hide hi2
 have X1:=x1c.keep hb4 x1c.z
 have X3:=x3.keep hb4 x3.z
 have hT4:=hT3.later hb4
 have hB4:Below b1 w w4:=hB3.trans (hb4.mono (by omega))
 have hz4:=hb4.size
 clear hi hi2 x1c x2c x3 hT3 hB3 hb4
 have t0:=X1.cell 0 _ rfl
 have g0:=X3.cell 0 _ rfl
 have k0:=X3.free 0 (by simp)
 have g1:=X3.cell 1 _ rfl
 have k1:=X3.free 1 (by simp)
 by_cases h0:i < 0
 ·have hd:decide (i < 0) = true:=decide_eq_true h0
  have HS:Hid (slId ss i = 0 ∧ slFs ss i = [] ∧ decide (0 ≤ i) = false):=hide ⟨by unfold slId;rw [if_neg (by omega)],by unfold slFs;rw [if_neg (by omega)],decide_eq_false (by omega)⟩
  obtain ⟨q0,q1⟩:=set2 w4 b3 _ _ (.int .u32 0) (.slice none 0 0) g0 g1
  have HQ:=hide (And.intro q0 q1)
  clear h0 X1 X3 hT4 q0 q1
  go_wp2_with fail
  (try simp only [Exit.inBlock,Exit.then])
  refine bodyPost_ret (ret_sch (b:=b3) (x:=.int .u32 0) (y:=.slice none 0 0) rfl _ _ rfl HQ.out.1 HQ.out.2) rfl ?_
  rw [← HI.out]
  refine ⟨none,0,?_,?_,?_⟩
  ·rw [HS.out.1,HS.out.2.1,HS.out.2.2];rfl
  ·rw [HS.out.2.1];exact World.ownsRow_nil _ _ _ _
  ·rw [H1.out];exact below_set2 hB4 b3 hw1 _ _
 ·have hd:decide (i < 0) = false:=decide_eq_false h0
  obtain ⟨hk,hik,_⟩:=ixA_at HI2.out.symm (by omega)
  generalize i.toNat = k at hk hik
  subst hik
  obtain ⟨b,off,rfl,hb,f0,f1⟩:=hT4.srow.sl hk
  have hrd:=hT4.s_at hk
  have hml:=hm _ (getD_mem hk)
  have HS:Hid (slId ss (k:Int) = (ss.getD k default).id ∧ slFs ss (k:Int) = (ss.getD k default).fs ∧ decide ((0:Int) ≤ (k:Int)) = true):=hide ⟨by unfold slId;rw [if_pos (by omega),Int.toNat_natCast],by unfold slFs;rw [if_pos (by omega),Int.toNat_natCast],decide_eq_true (by omega)⟩
  generalize ss.getD k default = f at *
  have HX:=hide X3
  clear X1 X3 hT4 h0
  go_wp2_with fail
  have y5:=boxN_new w4 #[.int .u32 (f.id.toNat:Int),.slice f.A f.fs.length f.c] 33
  have hbA:=(Below.refl w4.heap.size w4).alloc (Nat.le_refl _) (.cells #[.int .u32 (f.id.toNat:Int),.slice f.A f.fs.length f.c] 33)
  have X5:=HX.out.keep hbA HX.out.z
  have hrd5:=(hrd.below hbA).more hbA.size
  have hB5:Below b1 w (w4.alloc (.cells #[.int .u32 (f.id.toNat:Int),.slice f.A f.fs.length f.c] 33)):=hB4.trans (hbA.mono (by omega))
  have hz35:b3 < w4.heap.size:=HX.out.z
  have hz45:w4.heap.size < (w4.alloc (.cells #[.int .u32 (f.id.toNat:Int),.slice f.A f.fs.length f.c] 33)).heap.size:=by simp
  generalize w4.alloc (.cells #[.int .u32 (f.id.toNat:Int),.slice f.A f.fs.length f.c] 33) = w5 at *
  generalize w4.heap.size = b7 at *
  clear t0 f0 f1 g0 g1 k0 k1 hbA hrd
  have s0:=y5.cell 0 _ rfl
  have s1:=y5.cell 1 _ rfl
  have g0:=X5.cell 0 _ rfl
  have g1:=X5.cell 1 _ rfl
  have k0:=X5.free 0 (by simp)
  have k1:=X5.free 1 (by simp)
  have n73:b7 ≠ b3:=by omega
  have hz5:b3 < w5.heap.size:=by omega
  have hw5:b1 ≤ w5.heap.size:=by omega
  have HXY:=hide (And.intro X5 y5)
  clear X5 y5
  go_region_held3 (fun w' => w'.cell? ⟨b7,0,none⟩ = some (.int .u32 (f.id.toNat:Int)) ∧ w'.cell? ⟨b7,1,none⟩ = some (.slice f.A f.fs.length f.c)) (first | exact ⟨s0',s1'⟩ | exact ⟨s0,s1⟩ | exact ⟨set2_keep' n73 s0' _ _,set2_keep' n73 s1' _ _⟩ | go_keep)
   (first | (go_at_call 84;refine (cloneF w5.drew w5.heap.size f.fs.length f.c f.A (fdsV f.fs) hrd5.drew (fdsV_one _) (by omega) (Nat.le_refl _)).mono ?_;rintro e w6 ⟨v6,rfl,hown6,hb6⟩;have hb6':=below_of_drew hb6;have X6:=HXY.out.1.keep hb6' HXY.out.1.z;have Y6:=HXY.out.2.keep hb6' HXY.out.2.z;have s0':=Y6.cell 0 _ rfl;have s1':=Y6.cell 1 _ rfl;have g0':=X6.cell 0 _ rfl;have g1':=X6.cell 1 _ rfl;have k0':=X6.free 0 (by simp);have k1':=X6.free 1 (by simp);have ho6:=Rd.of_own hown6;obtain ⟨A6,c6,rfl,_⟩:=ho6))
  all_goals (try go_wp2_with fail)
  all_goals (try simp only [Exit.inBlock,Exit.then])
  all_goals
   obtain ⟨q0,q1⟩:=set2 w6 b3 _ _ (.int .u32 (f.id.toNat:Int)) (.slice A6 f.fs.length c6) g0' g1'
   refine bodyPost_ret (ret_sch (b:=b3) (x:=.int .u32 (f.id.toNat:Int)) (y:=.slice A6 f.fs.length c6) rfl _ _ rfl q0 q1) rfl ?_
   rw [← HI.out]
   refine ⟨A6,c6,?_,?_,?_⟩
   ·rw [HS.out.1,HS.out.2.1,HS.out.2.2];rfl
   ·rw [HS.out.2.1,H1.out]
    exact own_base (ownsRow_setCell_below (ownsRow_setCell_below hown6 (a:=⟨b3,0,none⟩) hz5 _) (a:=⟨b3,1,none⟩) hz5 _) hw5
   ·rw [H1.out];exact below_set2 (hB5.trans (hb6'.mono hw5)) b3 hw1 _ _

section
open Go.RowKit

theorem own_grown {w w':World} {base base2 sz sz2 n n2:Nat} {e e2:TypeId} {v v2:Value} {xs xs2:List Value} (h:w.ownsRow base e sz v n xs) (ho:w.ownsRow base2 e2 sz2 v2 n2 xs2) (hg:w.grownBy w' v2.ownBlock) (hne:e ≠ e2):w'.ownsRow base e sz v n xs:=by
 refine h.kept hg ?_
 rcases h.2 with ⟨rfl,_⟩ | ⟨g,cap,cur,rfl,_,hc,_⟩
 ·exact .inl rfl
 ·refine .inr fun q => ?_
  rcases ho.2 with ⟨rfl,_⟩ | ⟨g2,cap2,cur2,rfl,_,hc2,_⟩
  ·cases q
  ·simp only [Value.ownBlock] at q
   injection q with q
   subst q
   rw [hc] at hc2
   injection hc2 with hc2
   injection hc2 with _ q2 _
   exact hne q2
structure OwnT (w:World) (B:Nat) (sA:Option Addr) (sc:Nat) (ss:List Sl) (nA:Option Addr) (nc:Nat) (ns:List Nl):Prop where
 sown:w.ownsRow B 33 2 (.slice sA ss.length sc) ss.length (slsV ss)
 sin:∀ s ∈ ss,w.ownsRow B 89 4 (.slice s.A s.fs.length s.c) s.fs.length (fdsV s.fs)
 nown:w.ownsRow B 43 7 (.slice nA ns.length nc) ns.length (nlsV ns)
 nin:∀ s ∈ ns,w.ownsRow B 9 1 (.slice s.A s.p.ms.length s.c) s.p.ms.length (strsV s.p.ms)
theorem rd_own {w:World} {B sz n c:Nat} {e:TypeId} {A:Option Addr} {xs:List Value} (h:w.ownsRow B e sz (.slice A n c) n xs):Rd w w.heap.size sz A n c xs:=by
 obtain ⟨A',c',q,hr⟩:=Rd.of_own h
 injection q with q1 q2 q3
 subst q1 q3
 exact hr
section
variable {w w':World} {B sc nc:Nat} {sA nA:Option Addr} {ss:List Sl} {ns:List Nl}
theorem OwnT.keep (h:OwnT w B sA sc ss nA nc ns) (hb:Below w.heap.size w w'):OwnT w' B sA sc ss nA nc ns :=
 ⟨own_below h.sown hb,fun s hs => own_below (h.sin s hs) hb,own_below h.nown hb,fun s hs => own_below (h.nin s hs) hb⟩
theorem OwnT.set (h:OwnT w B sA sc ss nA nc ns) {p:Addr} (hp:p.block < B) (x:Value):OwnT (w.setCell p x) B sA sc ss nA nc ns :=
 ⟨ownsRow_setCell_below h.sown hp x,fun s hs => ownsRow_setCell_below (h.sin s hs) hp x,ownsRow_setCell_below h.nown hp x,fun s hs => ownsRow_setCell_below (h.nin s hs) hp x⟩
theorem OwnT.base (h:OwnT w B sA sc ss nA nc ns) {B2:Nat} (hB:B2 ≤ B):OwnT w B2 sA sc ss nA nc ns :=
 ⟨own_base h.sown hB,fun s hs => own_base (h.sin s hs) hB,own_base h.nown hB,fun s hs => own_base (h.nin s hs) hB⟩
theorem OwnT.tab (h:OwnT w B sA sc ss nA nc ns):TabR w w.heap.size sA sc ss nA nc ns :=
 ⟨rd_own h.sown,fun s hs => rd_own (h.sin s hs),rd_own h.nown,fun s hs => rd_own (h.nin s hs)⟩
theorem OwnT.nil (w:World) (B:Nat):OwnT w B none 0 [] none 0 []:=⟨World.ownsRow_nil _ _ _ _,by simp,World.ownsRow_nil _ _ _ _,by simp⟩
/-- a schema more -/
theorem OwnT.snocS (h:OwnT w B sA sc ss nA nc ns) {v:Value} {s:Sl} (hin:w.ownsRow B 89 4 (.slice s.A s.fs.length s.c) s.fs.length (fdsV s.fs)) (hown:w'.ownsRow B 33 2 v (ss.length + 1) (slsV ss ++ slV s)) (hg:w.grownBy w' (Value.slice sA ss.length sc).ownBlock) :
 ∃ g cap,v = .slice (some ⟨g,0,none⟩) (ss.length + 1) cap ∧ OwnT w' B (some ⟨g,0,none⟩) cap (ss ++ [s]) nA nc ns:=by
 obtain ⟨g,cap,rfl,_,_⟩:=hown.form (Nat.succ_pos _)
 have e1:(ss ++ [s]).length = ss.length + 1:=by simp
 have e2:slsV ss ++ slV s = slsV (ss ++ [s]):=by rw [slsV_append];simp [slsV]
 refine ⟨g,cap,rfl,by rw [e1,← e2];exact hown,fun x hx => ?_,own_grown h.nown h.sown hg (by decide),fun x hx => own_grown (h.nin x hx) h.sown hg (by decide)⟩
 rcases List.mem_append.1 hx with hx | hx
 ·exact own_grown (h.sin x hx) h.sown hg (by decide)
 ·have:x = s:=by simpa using hx
  subst this
  exact own_grown hin h.sown hg (by decide)
/-- a snapshot more -/
theorem OwnT.snocN (h:OwnT w B sA sc ss nA nc ns) {v:Value} {s:Nl} (hin:w.ownsRow B 9 1 (.slice s.A s.p.ms.length s.c) s.p.ms.length (strsV s.p.ms)) (hown:w'.ownsRow B 43 7 v (ns.length + 1) (nlsV ns ++ nlV s)) (hg:w.grownBy w' (Value.slice nA ns.length nc).ownBlock) :
 ∃ g cap,v = .slice (some ⟨g,0,none⟩) (ns.length + 1) cap ∧ OwnT w' B sA sc ss (some ⟨g,0,none⟩) cap (ns ++ [s]):=by
 obtain ⟨g,cap,rfl,_,_⟩:=hown.form (Nat.succ_pos _)
 have e1:(ns ++ [s]).length = ns.length + 1:=by simp
 have e2:nlsV ns ++ nlV s = nlsV (ns ++ [s]):=by rw [nlsV_append];simp [nlsV]
 refine ⟨g,cap,rfl,own_grown h.sown h.nown hg (by decide),fun x hx => own_grown (h.sin x hx) h.nown hg (by decide),by rw [e1,← e2];exact hown,fun x hx => ?_⟩
 rcases List.mem_append.1 hx with hx | hx
 ·exact own_grown (h.nin x hx) h.nown hg (by decide)
 ·have:x = s:=by simpa using hx
  subst this
  exact own_grown hin h.nown hg (by decide)
end
/-! ### words for regions -/
def SchO (B:Nat) (id:UInt32) (fs:List Fd) (v:Value) (w:World):Prop:=∃ A c,v = .agg #[.int .u32 (id.toNat:Int),.slice A fs.length c] ∧ w.ownsRow B 89 4 (.slice A fs.length c) fs.length (fdsV fs)
theorem mono_schO (B:Nat) (id:UInt32) (fs:List Fd):(Slot.has (SchO B id fs)).mono Ext:=fun _ _ _ he ⟨A,c,e,h⟩ => ⟨A,c,e,own_below h he⟩
def LitS (B:Nat) (id:UInt32) (fs:List Fd) (v:Value) (w:World):Prop:=∃ A c L,v = .slice L 1 1 ∧ Rd w w.heap.size 2 L 1 1 (slV ⟨id,fs,A,c⟩) ∧ w.ownsRow B 89 4 (.slice A fs.length c) fs.length (fdsV fs)
theorem mono_litS (B:Nat) (id:UInt32) (fs:List Fd):(Slot.has (LitS B id fs)).mono Ext:=fun _ _ _ he ⟨A,c,L,e,h,h2⟩ => ⟨A,c,L,e,(h.below he).more he.size,own_below h2 he⟩
theorem litS_new (w:World) {B:Nat} {id:UInt32} {fs:List Fd} {A:Option Addr} {c:Nat} (h:w.ownsRow B 89 4 (.slice A fs.length c) fs.length (fdsV fs)) :
 (Slot.has (LitS B id fs)).holds (.slice (some ⟨w.heap.size,0,none⟩) 1 1) (w.alloc (.cells #[.int .u32 (id.toNat:Int),.slice A fs.length c] 33)):=by
 refine ⟨A,c,_,rfl,?_,h.alloc _⟩
 have:=Rd.lit w 33 #[.int .u32 (id.toNat:Int),.slice A fs.length c] (n:=1) (sz:=2) rfl (by decide)
 exact this.more (by simp)
def SnO (B:Nat) (p:Sn) (v:Value) (w:World):Prop:=∃ A c,v = .agg #[.int .u64 (p.id.toNat:Int),.int .u64 (p.par.toNat:Int),.int .u64 (p.seq.toNat:Int),.int .u64 (p.off.toNat:Int),.int .u64 (p.tim.toNat:Int),.int .u32 (p.sch.toNat:Int),.slice A p.ms.length c] ∧ w.ownsRow B 9 1 (.slice A p.ms.length c) p.ms.length (strsV p.ms)
theorem mono_snO (B:Nat) (p:Sn):(Slot.has (SnO B p)).mono Ext:=fun _ _ _ he ⟨A,c,e,h⟩ => ⟨A,c,e,own_below h he⟩
theorem snO_ret {w w':World} {B:Nat} {p:Sn} {e:Ending} (h:OwnEnd w p e w') (hB:B ≤ w.heap.size):∃ v,e = .returned v ∧ Ext w w' ∧ (Slot.has (SnO B p)).holds v w':=by
 obtain ⟨A,c,rfl,ho,hb⟩:=h
 exact ⟨_,rfl,hb,A,c,rfl,own_base ho hB⟩
def LitN (B:Nat) (p:Sn) (v:Value) (w:World):Prop:=∃ A c L,v = .slice L 1 1 ∧ Rd w w.heap.size 7 L 1 1 (nlV ⟨p,A,c⟩) ∧ w.ownsRow B 9 1 (.slice A p.ms.length c) p.ms.length (strsV p.ms)
theorem mono_litN (B:Nat) (p:Sn):(Slot.has (LitN B p)).mono Ext:=fun _ _ _ he ⟨A,c,L,e,h,h2⟩ => ⟨A,c,L,e,(h.below he).more he.size,own_below h2 he⟩
theorem litN_new (w:World) {B:Nat} {p:Sn} {A:Option Addr} {c:Nat} (h:w.ownsRow B 9 1 (.slice A p.ms.length c) p.ms.length (strsV p.ms)) :
 (Slot.has (LitN B p)).holds (.slice (some ⟨w.heap.size,0,none⟩) 1 1) (w.alloc (.cells #[.int .u64 (p.id.toNat:Int),.int .u64 (p.par.toNat:Int),.int .u64 (p.seq.toNat:Int),.int .u64 (p.off.toNat:Int),.int .u64 (p.tim.toNat:Int),.int .u32 (p.sch.toNat:Int),.slice A p.ms.length c] 43)):=by
 refine ⟨A,c,_,rfl,?_,h.alloc _⟩
 have:=Rd.lit w 43 #[.int .u64 (p.id.toNat:Int),.int .u64 (p.par.toNat:Int),.int .u64 (p.seq.toNat:Int),.int .u64 (p.off.toNat:Int),.int .u64 (p.tim.toNat:Int),.int .u32 (p.sch.toNat:Int),.slice A p.ms.length c] (n:=1) (sz:=7) rfl (by decide)
 exact this.more (by simp)
/-! ### a table as a value -/
theorem load_tb (w:World) (b:Nat) (v0 v1 v2:Value) (c0:w.cell? ⟨b,0,none⟩ = some v0) (c1:w.cell? ⟨b,1,none⟩ = some v1) (c2:w.cell? ⟨b,2,none⟩ = some v2) :
 (loadVar 39 ⟨b,0,none⟩).run Tryz.prog w = .ok (.agg #[v0,v1,v2]) w:=by
 go_simp
theorem ret_tb1 {fn:Func} {p:Tmp} (h:fn.results = #[.cell p 39]) (tmps:Array Value) (w:World) {b:Nat} {v0 v1 v2:Value} (hp:tmps.getD p undef = .pointer (some ⟨b,0,none⟩)) (hb:BoxN w b [v0,v1,v2]) :
 (results fn tmps).run Tryz.prog w = .ok (.agg #[v0,v1,v2]) w:=by
 rw [results_cell h,hp]
 have:=load_tb w b _ _ _ (hb.cell 0 _ rfl) (hb.cell 1 _ rfl) (hb.cell 2 _ rfl)
 simp [asAddr,Result.andThen,this]
theorem ret_tb2 {fn:Func} {p u:Tmp} (h:fn.results = #[.cell p 39,.tmp u]) (tmps:Array Value) (w:World) {b:Nat} {v0 v1 v2:Value} (hp:tmps.getD p undef = .pointer (some ⟨b,0,none⟩)) (hb:BoxN w b [v0,v1,v2]) :
 (results fn tmps).run Tryz.prog w = .ok (.tuple #[.agg #[v0,v1,v2],tmps.getD u undef]) w:=by
 rw [results_cell_tmp h,hp]
 have:=load_tb w b _ _ _ (hb.cell 0 _ rfl) (hb.cell 1 _ rfl) (hb.cell 2 _ rfl)
 simp [asAddr,Result.andThen,this]
def set3b (w:World) (b:Nat) (v0 v1 v2:Value):World:=((w.setCell ⟨b,0,none⟩ v0).setCell ⟨b,1,none⟩ v1).setCell ⟨b,2,none⟩ v2
section
variable {w:World} {b:Nat} {v0 v1 v2:Value}
theorem BoxN.set3b {u0 u1 u2:Value} (h:BoxN w b [u0,u1,u2]):BoxN (set3b w b v0 v1 v2) b [v0,v1,v2]:=((h.set (j:=0) v0 rfl).set (j:=1) v1 rfl).set (j:=2) v2 rfl
theorem below_set3b {B:Nat} {w0:World} (h:Below B w0 w) (hb:B ≤ b):Below B w0 (set3b w b v0 v1 v2):=((h.setCell (p:=⟨b,0,none⟩) hb _).setCell (p:=⟨b,1,none⟩) hb _).setCell (p:=⟨b,2,none⟩) hb _
theorem OwnT.set3b {B sc nc:Nat} {sA nA:Option Addr} {ss:List Sl} {ns:List Nl} (h:OwnT w B sA sc ss nA nc ns) (hb:b < B):OwnT (set3b w b v0 v1 v2) B sA sc ss nA nc ns :=
 ((h.set (p:=⟨b,0,none⟩) hb v0).set (p:=⟨b,1,none⟩) hb v1).set (p:=⟨b,2,none⟩) hb v2
end
def plS (s:Sl):UInt32 × List Fd:=(s.id,s.fs)
def plN (s:Nl):Sn:=s.p
/-- a table of one's own, with the same schemas and snapshots -/
def CopyEnd (w:World) (ss:List Sl) (ns:List Nl) (cur:Nat) (e:Ending) (w':World):Prop :=
 ∃ sA sc ss' nA nc ns',e = .returned (.agg #[.slice sA ss'.length sc,.slice nA ns'.length nc,.int .u64 (cur:Int)]) ∧ OwnT w' w.heap.size sA sc ss' nA nc ns' ∧ ss'.map plS = ss.map plS ∧ ns'.map plN = ns.map plN ∧ Below w.heap.size w w'
/-- what holds at each round -/
structure CI (w0:World) (b3:Nat) (cur:Nat) (sA:Option Addr) (sc:Nat) (ss:List Sl) (nA:Option Addr) (nc:Nat) (ns:List Nl) (wr:World):Prop where
 bx:BoxN wr b3 #[.slice sA ss.length sc,.slice nA ns.length nc,.int .u64 (cur:Int)].toList
 own:OwnT wr w0.heap.size sA sc ss nA nc ns
 below:Below b3 w0 wr
 lt:b3 < w0.heap.size
end


theorem map_snoc {α β:Type} {f:α → β} {a b:List α} {k:Nat} [Inhabited α] {x:α} (h:a.map f = (b.take k).map f) (hk:k < b.length) (hx:f x = f (b.getD k default)):(a ++ [x]).map f = (b.take (k + 1)).map f:=by
 rw [List.map_append,h,List.take_add_one,List.map_append]
 simp [hk,List.getD] at hx ⊢
 exact hx
set_option maxHeartbeats 4000000 in
theorem metaCopied (w:World) (sA:Option Addr) (sc:Nat) (ss:List Sl) (nA:Option Addr) (nc:Nat) (ns:List Nl) (cur:Nat) (hT:TabR w w.heap.size sA sc ss nA nc ns) (h1:ss.length ≤ 1000000) (h2:∀ s ∈ ss,s.fs.length ≤ 1000000) (h3:ns.length ≤ 1000000) (h4:∀ s ∈ ns,s.p.ms.length ≤ 1000000) :
 Calls Tryz.prog 88 #[.agg #[.slice sA ss.length sc,.slice nA ns.length nc,.int .u64 (cur:Int)]] w (CopyEnd w ss ns cur):=by
 go_enter Tryz.func88,Tryz.ntmps88
 go_wp2_with fail
 have x1:=boxN_new w #[.slice sA ss.length sc,.slice nA ns.length nc,.int .u64 (cur:Int)] 39
 have hb1:=(Below.refl w.heap.size w).alloc (Nat.le_refl _) (.cells #[.slice sA ss.length sc,.slice nA ns.length nc,.int .u64 (cur:Int)] 39)
 have hz1:(w.alloc (.cells #[.slice sA ss.length sc,.slice nA ns.length nc,.int .u64 (cur:Int)] 39)).heap.size = w.heap.size + 1:=by simp
 generalize w.alloc (.cells #[.slice sA ss.length sc,.slice nA ns.length nc,.int .u64 (cur:Int)] 39) = w1 at *
 have x2:=boxN_new w1 #[.slice none 0 0,.slice none 0 0,.int .u64 0] 39
 have hb2:=(Below.refl w1.heap.size w1).alloc (Nat.le_refl _) (.cells #[.slice none 0 0,.slice none 0 0,.int .u64 0] 39)
 have hz2:(w1.alloc (.cells #[.slice none 0 0,.slice none 0 0,.int .u64 0] 39)).heap.size = w1.heap.size + 1:=by simp
 have x1b:=x1.keep hb2 x1.z
 have hB2:=below_call hb1 hb1.size hb2
 generalize w1.alloc (.cells #[.slice none 0 0,.slice none 0 0,.int .u64 0] 39) = w2 at *
 have x3:=boxN_new w2 #[.slice none 0 0,.slice none 0 0,.int .u64 (cur:Int)] 39
 have hb3:=(Below.refl w2.heap.size w2).alloc (Nat.le_refl _) (.cells #[.slice none 0 0,.slice none 0 0,.int .u64 (cur:Int)] 39)
 have x1c:=x1b.keep hb3 x1b.z
 have x2c:=x2.keep hb3 x2.z
 have hB3:=below_call hB2 hB2.size hb3
 generalize w2.alloc (.cells #[.slice none 0 0,.slice none 0 0,.int .u64 (cur:Int)] 39) = w3 at *
 have hT3:=hT.below hB3
 rw [← hz1,← hz2]
 have z12:w.heap.size < w1.heap.size:=by omega
 have z23:w1.heap.size < w2.heap.size:=by omega
 have z34:w2.heap.size < w3.heap.size:=x3.z
 generalize hb1e:w.heap.size = b1 at *
 generalize w1.heap.size = b2 at *
 generalize w2.heap.size = b3 at *
 have H1:=hide hb1e
 clear hz1 hz2 hb1 hb2 hb3 x1 x1b x2 hB2 hT hb1e
 have C0:CI w3 b3 cur none 0 [] none 0 [] w3:=⟨x3,OwnT.nil _ _,Below.refl _ _,z34⟩
 have c0:=x1c.cell 0 _ rfl
 have c1:=x1c.cell 1 _ rfl
 have zb1:b1 < w3.heap.size:=by omega
 clear x3
 go_loopw [14] (fun iv wr => ∃ (k:Nat) (oA:Option Addr) (oc:Nat) (sd:List Sl),iv = .int .i64 (k:Int) ∧ k ≤ ss.length ∧ sd.length = k ∧ Hid (sd.map plS = (ss.take k).map plS) ∧ CI w3 b3 cur oA oc sd none 0 [] wr) (fun iv _ => ss.length - (intOf iv).toNat)
 case atStart => exact ⟨0,none,0,[],rfl,Nat.zero_le _,rfl,hide rfl,C0⟩
 case round =>
  clear C0
  obtain ⟨k,oA,oc,sd,rfl,hk,hsd,hpl,CC⟩:=hrel
  have HSD:=hide hsd
  clear hsd
  by_cases hlt:k < ss.length
  ·have hTr:=(hT3.below (CC.below.mono (show b1 ≤ b3 by omega))).more (show b1 ≤ wr.heap.size by have:=CC.below.size;omega)
   obtain ⟨b,off,rfl,hb,f0,f1⟩:=hTr.srow.sl hlt
   have hrd:=hTr.s_at hlt
   have hml:=h2 _ (getD_mem hlt)
   generalize hf:ss.getD k default = f at *
   have HF:=hide hf
   clear hf hTr
   go_wp2_with fail
   have y:=boxN_new wr #[.int .u32 (f.id.toNat:Int),.slice f.A f.fs.length f.c] 33
   have hbA:=(Below.refl wr.heap.size wr).alloc (Nat.le_refl _) (.cells #[.int .u32 (f.id.toNat:Int),.slice f.A f.fs.length f.c] 33)
   have hrd5:=(hrd.below hbA).more hbA.size
   have X5:=CC.bx.keep hbA CC.bx.z
   have O5:=CC.own.keep hbA
   have hB5:Below b3 w3 _:=below_call CC.below (by have:=CC.below.size;omega) hbA
   generalize wr.alloc (.cells #[.int .u32 (f.id.toNat:Int),.slice f.A f.fs.length f.c] 33) = w5 at *
   generalize wr.heap.size = b5 at *
   have zy:=y.z
   have zo:b3 < w5.heap.size:=X5.z
   have u0:=y.cell 0 _ rfl
   have u1:=y.cell 1 _ rfl
   have o0:=X5.cell 0 _ rfl
   have hw5:w3.heap.size ≤ w5.heap.size:=hB5.size
   clear f0 f1 hrd hbA y
   refine wp_region_abs_tail 9 ext_grow (by kernel_rfl) (by kernel_rfl) ?_
   simp only [List.map_cons,List.map_nil,List.take_succ_cons,List.take_zero,List.drop_succ_cons,List.drop_zero]
   refine wpA_value ext_grow ?_ (fun _ _ h => by cases h) rfl rfl ?_ ?_
   rotate_left 1
   ·intro w' hw' C hC
    go_simp
    try go_bits
    exact hC
   simp only [putS,zC0,zB0]
   refine wpA_value ext_grow ?_ (fun _ _ h => by cases h) rfl rfl ?_ ?_
   rotate_left 1
   ·intro w' hw' C hC
    have q:=(hw'.cell (p:=⟨b3,0,none⟩) zo).trans o0
    go_simp
    try go_bits
    exact hC
   simp only [putS,zC0,zB0]
   refine wpA_value ext_grow ?_ (fun _ _ h => by cases h) rfl rfl ?_ ?_
   rotate_left 1
   ·intro w' hw' C hC
    go_simp
    try go_bits
    exact hC
   simp only [putS,zC0,zB0]
   refine wpA_value ext_grow ?_ (fun _ _ h => by cases h) rfl rfl ?_ ?_
   rotate_left 1
   ·intro w' hw' C hC
    have q:=(hw'.cell (p:=⟨b5,0,none⟩) zy).trans u0
    go_simp
    try go_bits
    exact hC
   simp only [putS,zC0,zB0]
   refine wpA_value ext_grow ?_ (fun _ _ h => by cases h) rfl rfl ?_ ?_
   rotate_left 1
   ·intro w' hw' C hC
    go_simp
    try go_bits
    exact hC
   simp only [putS,zC0,zB0]
   refine wpA_value ext_grow ?_ (fun _ _ h => by cases h) rfl rfl ?_ ?_
   rotate_left 1
   ·intro w' hw' C hC
    have q:=(hw'.cell (p:=⟨b5,1,none⟩) zy).trans u1
    go_simp
    try go_bits
    exact hC
   simp only [putS,zC0,zB0]
   refine wpA_known (.has (OwnF w3.heap.size (fdsV f.fs))) (fun _ _ h => by cases h) rfl rfl (mono_ownF _ _) (fun w' hw' => ?_) ?_
   ·go_simp
    exact ⟨Below.refl _ _,(cloneF w' w5.heap.size f.fs.length f.c f.A _ (hrd5.keep fun p hp => hw'.cell hp) (fdsV_one _) (by omega) hw'.size).mono fun e w'' h => ownF_ret h (Nat.le_trans hw5 hw'.size)⟩
   simp only [putS,zC0,zB0]
   refine wpA_one 24 _ (.has (SchO w3.heap.size f.id f.fs)) rfl (by simp) (fun _ _ h => by cases h) rfl rfl (fun _ => rfl) (mono_schO _ _ _) (fun u w' hw' hu => ?_) ?_
   ·obtain ⟨n,e,ho⟩:=hu
    obtain rfl:n = f.fs.length:=by rw [fdsV_length] at e;omega
    obtain ⟨A',c',rfl,_⟩:=Rd.of_own ho
    go_simp
    exact ⟨Below.refl _ _,A',c',rfl,ho⟩
   simp only [putS,zC0,zB0]
   refine wpA_one 25 _ (.has (LitS w3.heap.size f.id f.fs)) rfl (by simp) (fun _ _ h => by cases h) rfl rfl (fun _ => rfl) (mono_litS _ _ _) (fun u w' hw' hu => ?_) ?_
   ·obtain ⟨A',c',rfl,ho⟩:=hu
    go_simp
    exact ⟨(Below.refl _ _).alloc (Nat.le_refl _) _,litS_new w' ho⟩
   simp only [putS,zC0,zB0]
   intro wA hwA
   simp only [openS]
   rintro v24 - v25 - v26 ⟨A9,c9,L9,rfl,hlit,hoin⟩
   have hbA:Below w5.heap.size w5 wA:=below_of_drew hwA
   have XA:=X5.keep hbA X5.z
   have OA:=O5.keep hbA
   have hBA:Below b3 w3 wA:=below_call hB5 (by omega) hbA
   have hsz:w3.heap.size ≤ wA.heap.size:=hBA.size
   have hlen:sd.length ≤ 1000000:=by have:=HSD.out;omega
   have HPL:=hide (map_snoc (x:=(⟨f.id,f.fs,A9,c9⟩:Sl)) hpl.out hlt (by rw [HF.out];rfl))
   clear hpl hwA hbA hB5 u0 u1 o0 X5 O5 zy zo hrd5
   go_wp2_with (at_builtin;refine wpList_app _ tySchs rfl (.tmp 19) (.tmp 26) rfl w3.heap.size _ _ _ rfl OA.sown wA.heap.size L9 1 1 _ rfl hlit (slV_one _) (by omega) hsz ?_;intro v3 w8 hown8 hg8 _;obtain ⟨g,cap,rfl,O8⟩:=OA.snocS (s:=⟨f.id,f.fs,A9,c9⟩) hoin hown8 hg8;have hb8:Below w3.heap.size wA w8:=below_app (Below.refl _ _) (Nat.le_refl _) OA.sown hg8 hsz;have X8:=XA.keep hb8 z34;have s8:=X8.cell 0 _ rfl;have f8:=X8.free 0 (by simp);have hB8:Below b3 w3 w8:=hBA.trans (hb8.mono (Nat.le_of_lt z34));have HO:=hide (And.intro O8 X8);clear hown8 hg8 hb8 O8 X8)
   go_roundw
   case rel =>
    refine ⟨k + 1,some ⟨g,0,none⟩,cap,sd ++ [⟨f.id,f.fs,A9,c9⟩],by go_num,by omega,by rw [List.length_append,HSD.out];rfl,HPL,?_,HO.out.1.set z34 _,hB8.setCell (p:=⟨b3,0,none⟩) (Nat.le_refl _) _,z34⟩
    rw [List.length_append]
    exact HO.out.2.set (j:=0) _ rfl
   case measure => simp [intOf];omega
  ·have HPS:Hid (sd.map plS = ss.map plS):=hide (by have:=hpl.out;rw [show k = ss.length by omega,List.take_length] at this;exact this)
   have C1:=CC
   have c1r:=(CC.below.cell (p:=⟨b1,1,none⟩) (show b1 < b3 by omega)).trans c1
   clear hpl CC c0 c1
   go_wp2_with fail
   go_loopw [33] (fun iv wr => ∃ (m:Nat) (pA:Option Addr) (pc:Nat) (nd:List Nl),iv = .int .i64 (m:Int) ∧ m ≤ ns.length ∧ nd.length = m ∧ Hid (nd.map plN = (ns.take m).map plN) ∧ CI w3 b3 cur oA oc sd pA pc nd wr) (fun iv _ => ns.length - (intOf iv).toNat)
   case atStart => exact ⟨0,none,0,[],rfl,Nat.zero_le _,rfl,hide rfl,C1⟩
   case round =>
    clear C1 c1r
    obtain ⟨m,pA,pc,nd,rfl,hm,hnd,hpn,CC⟩:=hrel
    have HND:=hide hnd
    clear hnd
    by_cases hlm:m < ns.length
    ·have hTr:=(hT3.below (CC.below.mono (show b1 ≤ b3 by omega))).more (show b1 ≤ wr.heap.size by have:=CC.below.size;omega)
     obtain ⟨b,off,rfl,hb,f0,f1,f2,f3,f4,f5,f6⟩:=hTr.nrow.nl hlm
     have hrd:=hTr.n_at hlm
     have hml:=h4 _ (getD_mem hlm)
     generalize hf:ns.getD m default = f at *
     have HF:=hide hf
     clear hf hTr
     go_wp2_with fail
     have y:=boxN_new wr #[.int .u64 (f.p.id.toNat:Int),.int .u64 (f.p.par.toNat:Int),.int .u64 (f.p.seq.toNat:Int),.int .u64 (f.p.off.toNat:Int),.int .u64 (f.p.tim.toNat:Int),.int .u32 (f.p.sch.toNat:Int),.slice f.A f.p.ms.length f.c] 43
     have hbA:=(Below.refl wr.heap.size wr).alloc (Nat.le_refl _) (.cells #[.int .u64 (f.p.id.toNat:Int),.int .u64 (f.p.par.toNat:Int),.int .u64 (f.p.seq.toNat:Int),.int .u64 (f.p.off.toNat:Int),.int .u64 (f.p.tim.toNat:Int),.int .u32 (f.p.sch.toNat:Int),.slice f.A f.p.ms.length f.c] 43)
     have hrd5:=(hrd.below hbA).more hbA.size
     have X5:=CC.bx.keep hbA CC.bx.z
     have O5:=CC.own.keep hbA
     have hB5:Below b3 w3 _:=below_call CC.below (by have:=CC.below.size;omega) hbA
     generalize wr.alloc (.cells #[.int .u64 (f.p.id.toNat:Int),.int .u64 (f.p.par.toNat:Int),.int .u64 (f.p.seq.toNat:Int),.int .u64 (f.p.off.toNat:Int),.int .u64 (f.p.tim.toNat:Int),.int .u32 (f.p.sch.toNat:Int),.slice f.A f.p.ms.length f.c] 43) = w5 at *
     generalize wr.heap.size = b5 at *
     have zy:=y.z
     have zo:b3 < w5.heap.size:=X5.z
     have u0:=y.cell 0 _ rfl
     have u1:=y.cell 1 _ rfl
     have u2:=y.cell 2 _ rfl
     have u3':=y.cell 3 _ rfl
     have u4':=y.cell 4 _ rfl
     have u5':=y.cell 5 _ rfl
     have u6':=y.cell 6 _ rfl
     have o1:=X5.cell 1 _ rfl
     have hw5:w3.heap.size ≤ w5.heap.size:=hB5.size
     clear f0 f1 f2 f3 f4 f5 f6 hrd hbA y
     refine wp_region_abs_tail 5 ext_grow (by kernel_rfl) (by kernel_rfl) ?_
     simp only [List.map_cons,List.map_nil,List.take_succ_cons,List.take_zero,List.drop_succ_cons,List.drop_zero]
     refine wpA_value ext_grow ?_ (fun _ _ h => by cases h) rfl rfl ?_ ?_
     rotate_left 1
     ·intro w' hw' C hC
      go_simp
      try go_bits
      exact hC
     simp only [putS,zC0,zB0]
     refine wpA_value ext_grow ?_ (fun _ _ h => by cases h) rfl rfl ?_ ?_
     rotate_left 1
     ·intro w' hw' C hC
      have q:=(hw'.cell (p:=⟨b3,1,none⟩) zo).trans o1
      go_simp
      try go_bits
      exact hC
     simp only [putS,zC0,zB0]
     refine wpA_value ext_grow ?_ (fun _ _ h => by cases h) rfl rfl ?_ ?_
     rotate_left 1
     ·intro w' hw' C hC
      have q0:=(hw'.cell (p:=⟨b5,0,none⟩) zy).trans u0
      have q1:=(hw'.cell (p:=⟨b5,1,none⟩) zy).trans u1
      have q2:=(hw'.cell (p:=⟨b5,2,none⟩) zy).trans u2
      have q3:=(hw'.cell (p:=⟨b5,3,none⟩) zy).trans u3'
      have q4:=(hw'.cell (p:=⟨b5,4,none⟩) zy).trans u4'
      have q5:=(hw'.cell (p:=⟨b5,5,none⟩) zy).trans u5'
      have q6:=(hw'.cell (p:=⟨b5,6,none⟩) zy).trans u6'
      go_simp
      try go_bits
      exact hC
     simp only [putS,zC0,zB0]
     refine wpA_known (.has (SnO w3.heap.size f.p)) (fun _ _ h => by cases h) rfl rfl (mono_snO _ _) (fun w' hw' => ?_) ?_
     ·go_simp
      exact ⟨Below.refl _ _,(metaOwn w' f.p f.A f.c ((hrd5.keep fun p hp => hw'.cell hp).more hw'.size) hml).mono fun e w'' h => snO_ret h (Nat.le_trans hw5 hw'.size)⟩
     simp only [putS,zC0,zB0]
     refine wpA_one 40 _ (.has (LitN w3.heap.size f.p)) rfl (by simp) (fun _ _ h => by cases h) rfl rfl (fun _ => rfl) (mono_litN _ _) (fun u w' hw' hu => ?_) ?_
     ·obtain ⟨A',c',rfl,ho⟩:=hu
      go_simp
      exact ⟨(Below.refl _ _).alloc (Nat.le_refl _) _,litN_new w' ho⟩
     simp only [putS,zC0,zB0]
     intro wA hwA
     simp only [openS]
     rintro v24 - v26 ⟨A9,c9,L9,rfl,hlit,hoin⟩
     have hbA:Below w5.heap.size w5 wA:=below_of_drew hwA
     have XA:=X5.keep hbA X5.z
     have OA:=O5.keep hbA
     have hBA:Below b3 w3 wA:=below_call hB5 (by omega) hbA
     have hsz:w3.heap.size ≤ wA.heap.size:=hBA.size
     have hlen:nd.length ≤ 1000000:=by have:=HND.out;omega
     have HPL:=hide (map_snoc (x:=(⟨f.p,A9,c9⟩:Nl)) hpn.out hlm (by rw [HF.out];rfl))
     clear hpn hwA hbA hB5 u0 u1 u2 u3' u4' u5' u6' o1 X5 O5 zy zo hrd5
     go_wp2_with (at_builtin;refine wpList_app _ tySnaps rfl (.tmp 38) (.tmp 41) rfl w3.heap.size _ _ _ rfl OA.nown wA.heap.size L9 1 1 _ rfl hlit (nlV_one _) (by omega) hsz ?_;intro v3 w8 hown8 hg8 _;obtain ⟨g,cap,rfl,O8⟩:=OA.snocN (s:=⟨f.p,A9,c9⟩) hoin hown8 hg8;have hb8:Below w3.heap.size wA w8:=below_app (Below.refl _ _) (Nat.le_refl _) OA.nown hg8 hsz;have X8:=XA.keep hb8 z34;have s8:=X8.cell 1 _ rfl;have f8:=X8.free 1 (by simp);have hB8:Below b3 w3 w8:=hBA.trans (hb8.mono (Nat.le_of_lt z34));have HO:=hide (And.intro O8 X8);clear hown8 hg8 hb8 O8 X8)
     go_roundw
     case rel =>
      refine ⟨m + 1,some ⟨g,0,none⟩,cap,nd ++ [⟨f.p,A9,c9⟩],by go_num,by omega,by rw [List.length_append,HND.out];rfl,HPL,?_,HO.out.1.set z34 _,hB8.setCell (p:=⟨b3,1,none⟩) (Nat.le_refl _) _,z34⟩
      rw [List.length_append]
      exact HO.out.2.set (j:=1) _ rfl
     case measure => simp [intOf];omega
    ·have HPN:Hid (nd.map plN = ns.map plN):=hide (by have:=hpn.out;rw [show m = ns.length by omega,List.take_length] at this;exact this)
     have g0:=CC.bx.cell 0 _ rfl
     have g1:=CC.bx.cell 1 _ rfl
     have g2:=CC.bx.cell 2 _ rfl
     have Y2:=x2c.keep CC.below (show b2 < b3 by omega)
     have k0:=Y2.cell 0 _ rfl
     have k1:=Y2.cell 1 _ rfl
     have k2:=Y2.cell 2 _ rfl
     have e0:=Y2.free 0 (by simp)
     have e1:=Y2.free 1 (by simp)
     have e2:=Y2.free 2 (by simp)
     have n32:b3 ≠ b2:=by omega
     have n23:b2 ≠ b3:=by omega
     have HC:=hide (And.intro CC Y2)
     clear hpn CC Y2
     go_wp2_with fail
     (try simp only [Exit.inBlock,Exit.then])
     refine bodyPost_ret (ret_tb1 (b:=b2) rfl _ _ rfl HC.out.2.set3b) rfl ?_
     refine ⟨oA,oc,sd,pA,pc,nd,rfl,?_,HPS.out,HPN.out,?_⟩
     ·exact (HC.out.1.own.set3b (by omega)).base (by rw [H1.out];omega)
     ·rw [H1.out]
      exact below_set3b (hB3.trans (HC.out.1.below.mono (by omega))) (by omega)

section
open Go.RowKit

section
variable {w w':World} {B sz g n c:Nat} {e:TypeId} {xs:List Value}
theorem own_blk (h:w.ownsRow B e sz (.slice (some ⟨g,0,none⟩) n c) n xs):∃ cur,w.heap[g]? = some (.cells cur e (0,0)) ∧ B ≤ g ∧ cur.size = c * sz ∧ n ≤ c ∧ c ≤ maxLen ∧ cur.toList.take (n * sz) = xs ∧ xs.length = n * sz:=by
 obtain ⟨hl,h2⟩:=h
 rcases h2 with ⟨q,_⟩ | ⟨g',cap,cur,q,hb,hc,hn,hm,hs,ht⟩
 ·cases q
 ·injection q with q1 q2 q3
  injection q1 with q1
  injection q1 with q1
  subst q1 q3
  exact ⟨cur,hc,hb,hs,hn,hm,ht,hl⟩
theorem own_set1 (h:w.ownsRow B e sz (.slice (some ⟨g,0,none⟩) n c) n xs) (k:Nat) (u:Value):(w.setCell ⟨g,k,none⟩ u).ownsRow B e sz (.slice (some ⟨g,0,none⟩) n c) n (xs.set k u):=by
 obtain ⟨cur,hc,hb,hs,hn,hm,ht,hl⟩:=own_blk h
 refine ⟨by simp [hl],.inr ⟨g,c,cur.setIfInBounds k u,rfl,hb,?_,hn,hm,by simpa using hs,?_⟩⟩
 ·simp [World.setCell,Array.getElem?_modify,hc]
 ·rw [Array.toList_setIfInBounds,List.take_set,ht]
theorem own_free (h:w.ownsRow B e sz (.slice (some ⟨g,0,none⟩) n c) n xs) (k:Nat):w.frozen? ⟨g,k,none⟩ = false:=by
 obtain ⟨cur,hc,_⟩:=own_blk h
 simp [World.frozen?,hc]
theorem own_lt (h:w.ownsRow B e sz (.slice (some ⟨g,0,none⟩) n c) n xs):B ≤ g ∧ g < w.heap.size:=by
 obtain ⟨cur,hc,hb,_⟩:=own_blk h
 exact ⟨hb,(Array.getElem?_eq_some_iff.1 hc).1⟩
/-- rows of another type stand while one's own is written in place -/
theorem own_othT {base sz2 n2:Nat} {e2:TypeId} {v2:Value} {xs2:List Value} (h2:w.ownsRow base e2 sz2 v2 n2 xs2) (h:w.ownsRow B e sz (.slice (some ⟨g,0,none⟩) n c) n xs) (ho:Oth g w w') (hne:e2 ≠ e):w'.ownsRow base e2 sz2 v2 n2 xs2:=by
 obtain ⟨cur,hc,_⟩:=own_blk h
 refine h2.kept (row:=some g) ⟨ho.os,ho.tape,ho.output,ho.size,fun k hk hne => ho.block k hk (fun q => hne (by rw [q]))⟩ ?_
 rcases h2.2 with ⟨rfl,_⟩ | ⟨g2,cap2,cur2,rfl,_,hc2,_⟩
 ·exact .inl rfl
 ·refine .inr fun q => ?_
  simp only [Value.ownBlock] at q
  injection q with q
  subst q
  rw [hc] at hc2
  injection hc2 with hc2
  injection hc2 with _ q2 _
  exact hne q2.symm
end
theorem nlsV_cons (a:Nl) (l:List Nl):nlsV (a :: l) = nlV a ++ nlsV l:=rfl
theorem nlsV_set (v:Nl) {v0 v1 v2 v3 v4 v5 v6:Value} (hv:nlV v = [v0,v1,v2,v3,v4,v5,v6]):∀ (arr:List Nl) (i:Nat),i < arr.length →
 (((((((nlsV arr).set (i * 7) v0).set (i * 7 + 1) v1).set (i * 7 + 2) v2).set (i * 7 + 3) v3).set (i * 7 + 4) v4).set (i * 7 + 5) v5).set (i * 7 + 6) v6 = nlsV (arr.set i v)
 | a :: arr,0,_ => by
   rw [zB0,nlsV_cons,nlsV_cons,hv]
   simp [nlV]
 | a :: arr,i + 1,h => by
   have ih:=nlsV_set v hv arr i (by simpa using h)
   rw [zC0,nlsV_cons,nlsV_cons,← ih]
   have e:∀ t,(i + 1) * 7 + t = (i * 7 + t) + 1 + 1 + 1 + 1 + 1 + 1 + 1:=fun t => by omega
   have e0:(i + 1) * 7 = (i * 7) + 1 + 1 + 1 + 1 + 1 + 1 + 1:=by omega
   rw [e 1,e 2,e 3,e 4,e 5,e 6,e0]
   simp [nlV]
end

section
abbrev Ps:=UInt32 × List Fd
def ps0:Ps:=(0,[])
def wasP (ss:List Ps) (i:Nat):Ps:=if i = 0 then ps0 else ss.getD (i - 1) ps0
def sOk (ss:List Ps) (i:Nat):Bool :=
 decide (check (ss.getD i ps0).1 (ss.getD i ps0).2 = 0) && (decide ((wasP ss i).1.toNat < (ss.getD i ps0).1.toNat) && (decide ((wasP ss i).2.length ≤ (ss.getD i ps0).2.length) && fdsEq ((ss.getD i ps0).2.take (wasP ss i).2.length) (wasP ss i).2))
def wasN (ns:List Sn) (i:Nat):Sn:=if i = 0 then default else ns.getD (i - 1) default
def hasSch (ss:List Ps) (id:UInt32):Bool:=ss.any fun s => (s.1.toNat:Int) == (id.toNat:Int)
def nOk (ss:List Ps) (ns:List Sn) (i:Nat):Bool :=
 decide ((wasN ns i).id.toNat < (ns.getD i default).id.toNat) && (decide ((ns.getD i default).id.toNat ≤ 1073741824) && (decide ((ns.getD i default).par.toNat < (ns.getD i default).id.toNat) &&
 (decide ((ns.getD i default).seq.toNat ≤ 1073741824 ∧ (ns.getD i default).off.toNat ≤ 1073741824 ∧ (ns.getD i default).tim.toNat ≤ 1073741824) &&
 (decide ((wasN ns i).seq.toNat ≤ (ns.getD i default).seq.toNat) && (decide ((wasN ns i).off.toNat ≤ (ns.getD i default).off.toNat) && (decide ((wasN ns i).tim.toNat ≤ (ns.getD i default).tim.toNat) && (decide ((wasN ns i).sch.toNat ≤ (ns.getD i default).sch.toNat) &&
 (namesOk (ns.getD i default).ms && hasSch ss (ns.getD i default).sch))))))))
def rightP (ss:List Ps) (ns:List Sn) (cur:Nat):Bool :=
 decide (1 ≤ ss.length ∧ ss.length ≤ 16 ∧ ns.length ≤ 32) && ((List.range ss.length).all (sOk ss) && ((List.range ns.length).all (nOk ss ns) && decide (cur = (wasN ns ns.length).id.toNat)))
theorem plS_get (ss:List Sl) (i:Nat):(ss.map plS).getD i ps0 = plS (ss.getD i default):=by
 simp [List.getD]
 cases ss[i]? <;> rfl
theorem plN_get (ns:List Nl) (i:Nat):(ns.map plN).getD i default = plN (ns.getD i default):=by
 simp [List.getD]
 cases ns[i]? <;> rfl
theorem wasP_succ (ss:List Ps) (k:Nat):wasP ss (k + 1) = ss.getD k ps0:=by unfold wasP;simp
theorem wasN_succ (ns:List Sn) (k:Nat):wasN ns (k + 1) = ns.getD k default:=by unfold wasN;simp
theorem has_any (ss:List Sl) (id:UInt32):hasSch (ss.map plS) id = decide (0 ≤ cIx ss id):=by
 unfold cIx hasSch
 rw [ixA_ge,List.any_map]
 rfl
section
variable {ss:List Ps} {ns:List Sn} {i:Nat} {s was:Ps}
theorem sOk_eq (hs:ss.getD i ps0 = s) (hw:wasP ss i = was):sOk ss i = (decide (check s.1 s.2 = 0) && (decide (was.1.toNat < s.1.toNat) && (decide (was.2.length ≤ s.2.length) && fdsEq (s.2.take was.2.length) was.2))):=by
 unfold sOk;rw [hs,hw]
theorem nOk_eq {s was:Sn} (hs:ns.getD i default = s) (hw:wasN ns i = was):nOk ss ns i = (decide (was.id.toNat < s.id.toNat) && (decide (s.id.toNat ≤ 1073741824) && (decide (s.par.toNat < s.id.toNat) && (decide (s.seq.toNat ≤ 1073741824 ∧ s.off.toNat ≤ 1073741824 ∧ s.tim.toNat ≤ 1073741824) &&
 (decide (was.seq.toNat ≤ s.seq.toNat) && (decide (was.off.toNat ≤ s.off.toNat) && (decide (was.tim.toNat ≤ s.tim.toNat) && (decide (was.sch.toNat ≤ s.sch.toNat) && (namesOk s.ms && hasSch ss s.sch))))))))):=by
 unfold nOk;rw [hs,hw]
theorem right_len {cur:Nat} (h:¬ (1 ≤ ss.length ∧ ss.length ≤ 16 ∧ ns.length ≤ 32)):rightP ss ns cur = false:=by unfold rightP;rw [decide_eq_false h];rfl
theorem right_s {cur:Nat} (hi:i < ss.length) (h:sOk ss i = false):rightP ss ns cur = false:=by
 unfold rightP;rw [range_bad hi h];simp
theorem right_n {cur:Nat} (hi:i < ns.length) (h:nOk ss ns i = false):rightP ss ns cur = false:=by
 unfold rightP;rw [range_bad hi h];simp
theorem right_all {cur:Nat} (h:1 ≤ ss.length ∧ ss.length ≤ 16 ∧ ns.length ≤ 32) (hs:∀ j,j < ss.length → sOk ss j = true) (hn:∀ j,j < ns.length → nOk ss ns j = true):rightP ss ns cur = decide (cur = (wasN ns ns.length).id.toNat):=by
 unfold rightP;rw [decide_eq_true h,range_good hs,range_good hn];rfl
end
end
end
end Go.Proofs.YtpfofefecamkfaaGreatDoor
