/- WHAT SERVES THE TABLES' STATEMENTS, part 10: EnRt, EnM, EnWF, EnO, EnQ, EnK, EnL, EnE. No statement of the seat is proved here. -/
import Derived.Test.YtpfofefecamkfaaGreatDoorG9
import Derived.Maps.OwnSet
import Derived.Maps.Views
import Derived.StringKeys
import Derived.Deep.RegionLawGrows
import Derived.Lib.SlBytesConst
import Derived.Maps.Own
import Derived.BigRegion
namespace Go.Proofs.YtpfofefecamkfaaGreatDoor
open Go.RowKit
set_option maxRecDepth 100000


def okS (rw:Int) (s:St):Bool:=decide (s.rows.toInt = rw) && statOk s
def rightF (c1:Bool) (sq:Nat) (rw:Int) (kb:Bool) (sc:Nat) (L:List St):Bool :=
 if c1 = false then false else if 1073741824 < sq then false else if rw < 0 then false else if 256 < rw then false else if L.all (okS rw) = false then false
 else if kb = true then decide (sc = 0) && decide (L.length = 1) else !decide (sc = 0) && (decide (1 ≤ L.length) && decide (L.length ≤ 8))
theorem rightE_eq (x:En):rightE x = rightF (pathOk x.name) x.seq.toNat x.rows.toInt x.keys x.sch.toNat x.stats:=by
 have hs:statsOk x.rows x.stats = x.stats.all (okS x.rows.toInt):=rfl
 unfold rightE rightF
 rw [hs]
 generalize x.rows.toInt = rw
 generalize x.seq.toNat = sq
 generalize x.stats.all (okS rw) = al
 cases pathOk x.name with
 | false => simp
 | true =>
   by_cases h1:1073741824 < sq
   ·rw [decide_eq_false (show ¬ sq ≤ 1073741824 by omega)];simp [h1]
   rw [decide_eq_true (show sq ≤ 1073741824 by omega)]
   by_cases h2:rw < 0
   ·rw [decide_eq_false (show ¬ 0 ≤ rw by omega)];simp [h1,h2]
   rw [decide_eq_true (show 0 ≤ rw by omega)]
   by_cases h3:256 < rw
   ·rw [decide_eq_false (show ¬ rw ≤ 256 by omega)];simp [h1,h2,h3]
   rw [decide_eq_true (show rw ≤ 256 by omega)]
   cases al with
   | false => simp [h1,h2,h3]
   | true =>
     simp only [h1,h2,h3,Bool.true_and,if_false,Bool.true_eq_false]
     cases x.keys with
     | false => simp only [Bool.false_eq_true,if_false];cases decide (1 ≤ x.stats.length) <;> cases decide (x.stats.length ≤ 8) <;> simp
     | true =>
       simp only [if_true]
       by_cases h4:x.stats.length = 1
       ·rw [decide_eq_true (show 1 ≤ x.stats.length by omega),decide_eq_true (show x.stats.length ≤ 8 by omega)];simp
       ·rw [decide_eq_false h4];simp
theorem all_next {L:List St} {f:St → Bool} {k:Nat} (hk:k < L.length) (h:(L.take k).all f = true) (h2:f (L.getD k default) = true):(L.take (k + 1)).all f = true:=by
 rw [List.take_add_one,List.all_append,h]
 simp [hk,List.getD] at h2 ⊢
 exact h2
theorem all_bad {L:List St} {f:St → Bool} {k:Nat} (hk:k < L.length) (h2:f (L.getD k default) = false):L.all f = false:=by
 apply Bool.eq_false_iff.2
 intro q
 rw [List.all_eq_true] at q
 have:=q _ (getD_mem hk)
 rw [h2] at this
 cases this
set_option maxHeartbeats 4000000 in
theorem entRight (w:World) (x:En) (SA:Option Addr) (sc:Nat) (hr:Rd w w.heap.size 10 SA x.stats.length sc (stsV x.stats)):Calls Tryz.prog 102 #[.agg #[.string x.name,.bool x.keys,.int .u64 (x.seq.toNat:Int),.int .i64 x.rows.toInt,.int .u32 (x.sch.toNat:Int),.slice SA x.stats.length sc]] w (RetVal w (.bool (rightE x))):=by
 rw [rightE_eq]
 have HN:=fun w => entNamed w x.name 
 have hsq:=x.seq.toNat_lt
 have hsc:=x.sch.toNat_lt
 have hll:x.stats.length ≤ 9223372036854775807:=by have h1:=hr.le;have h2:=hr.cap;unfold maxLen at h2;omega
 generalize pathOk x.name = c1 at *
 generalize x.name = nm at *
 generalize x.seq.toNat = sq at *
 generalize x.rows.toInt = rw at *
 generalize x.keys = kb at *
 generalize x.sch.toNat = sc32 at *
 generalize x.stats = L at *
 obtain ⟨R,hR⟩:∃ R,rightF c1 sq rw kb sc32 L = R:=⟨_,rfl⟩
 rw [hR]
 unfold rightF at hR
 have x0:=boxN_new w #[.string nm,.bool kb,.int .u64 (sq:Int),.int .i64 rw,.int .u32 (sc32:Int),.slice SA L.length sc] 97
 have hb1:=(Below.refl w.heap.size w).alloc (Nat.le_refl _) (.cells #[.string nm,.bool kb,.int .u64 (sq:Int),.int .i64 rw,.int .u32 (sc32:Int),.slice SA L.length sc] 97)
 go_enter Tryz.func102,Tryz.ntmps102
 go_wp2_with fail
 generalize w.alloc (.cells #[.string nm,.bool kb,.int .u64 (sq:Int),.int .i64 rw,.int .u32 (sc32:Int),.slice SA L.length sc] 97) = w1 at *
 have HWS:Hid (∀ w',Below w.heap.size w w' → Rd w' w'.heap.size 10 SA L.length sc (stsV L)):=hide (fun w' hb => (hr.below hb).more hb.size)
 obtain ⟨bx,hbx⟩:∃ b,b = w.heap.size:=⟨_,rfl⟩
 rw [← hbx] at x0 ⊢
 clear hr hbx
 refine (HN w1).mono ?_
 rintro e w2 ⟨rfl,hb2⟩
 have X2:=x0.keep hb2 x0.z
 have hB2:=below_call hb1 hb1.size hb2
 clear x0 hb1 hb2 HN
 cases c1 with
 | false =>
   obtain rfl:R = false:=by rw [← hR];simp
   clear hR
   go_wp2_with fail
   go_ret
   exact ⟨rfl,hB2⟩
 | true =>
 have c2:=X2.cell 2 _ rfl
 have c3:=X2.cell 3 _ rfl
 by_cases h1:1073741824 < sq
 ·obtain rfl:R = false:=by rw [← hR];simp [h1]
  have t1:decide ((1073741824:Int) < (sq:Int)) = true:=decide_eq_true (by omega)
  clear hR
  go_wp2_with fail
  go_ret
  exact ⟨rfl,hB2⟩
 have t1:decide ((1073741824:Int) < (sq:Int)) = false:=decide_eq_false (by omega)
 by_cases h2:rw < 0
 ·obtain rfl:R = false:=by rw [← hR];simp [h1,h2]
  have t2:decide (rw < 0) = true:=decide_eq_true h2
  clear hR
  go_wp2_with fail
  go_ret
  exact ⟨rfl,hB2⟩
 have t2:decide (rw < 0) = false:=decide_eq_false h2
 by_cases h3:256 < rw
 ·obtain rfl:R = false:=by rw [← hR];simp [h1,h2,h3]
  have t3:decide (256 < rw) = true:=decide_eq_true h3
  clear hR
  go_wp2_with fail
  go_ret
  exact ⟨rfl,hB2⟩
 have t3:decide (256 < rw) = false:=decide_eq_false h3
 simp only [h1,h2,h3,if_false,Bool.true_eq_false] at hR
 have HR:=hide hR
 clear hR h1 h2 h3
 have c5:=X2.cell 5 _ rfl
 go_wp2_with fail
 clear c2 c3 c5 t1 t2 t3
 go_loopw [27] (fun iv wr => ∃ k:Nat,iv = .int .i64 (k:Int) ∧ k ≤ L.length ∧ Hid ((L.take k).all (okS rw) = true) ∧ BoxN wr bx [.string nm,.bool kb,.int .u64 (sq:Int),.int .i64 rw,.int .u32 (sc32:Int),.slice SA L.length sc] ∧ Below w.heap.size w wr) (fun iv _ => L.length - (intOf iv).toNat)
 case atStart => exact ⟨0,rfl,Nat.zero_le _,hide rfl,X2,hB2⟩
 case round =>
  clear X2 hB2
  obtain ⟨k,rfl,hk,hall,X,hB⟩:=hrel
  have c3:=X.cell 3 _ rfl
  by_cases hlt:k < L.length
  ·have hrk:=HWS.out _ hB
   obtain ⟨gb,off,hSA,hgb,hcells⟩:=hrk.stA hlt
   obtain ⟨s,hs⟩:∃ s,L.getD k default = s:=⟨_,rfl⟩
   obtain ⟨f0,f1,f2,f3,f4,f5,f6,f7,f8,f9⟩:=hcells s hs
   have HS:=hide hs
   have hb9:=(Below.refl wr.heap.size wr).alloc (Nat.le_refl _) (.cells #[.int .i64 s.rows.toInt,.int .i64 s.nulls.toInt,.bool s.som,.bool s.high,.int .u8 (s.mn.kind.toNat:Int),.int .i64 s.mn.n.toInt,.string s.mn.s,.int .u8 (s.mx.kind.toNat:Int),.int .i64 s.mx.n.toInt,.string s.mx.s] 201)
   have X9:=X.keep hb9 X.z
   have s9:=boxN_new wr #[.int .i64 s.rows.toInt,.int .i64 s.nulls.toInt,.bool s.som,.bool s.high,.int .u8 (s.mn.kind.toNat:Int),.int .i64 s.mn.n.toInt,.string s.mn.s,.int .u8 (s.mx.kind.toNat:Int),.int .i64 s.mx.n.toInt,.string s.mx.s] 201
   have hB9:=below_call hB hB.size hb9
   have HX:=hide (And.intro X9 hB9)
   have HALL:=hide hall.out
   clear hs hrk hcells hb9 hB hall
   rw [hSA]
   have HSA:=hide hSA
   clear hSA
   by_cases heq:s.rows.toInt = rw
   ·have t5:(s.rows.toInt != rw) = false:=by rw [bne_eq_false_iff_eq];exact heq
    have HEQ:=hide heq
    clear heq X X9
    have c9:=HX.out.1.cell 3 _ rfl
    have d0:=s9.cell 0 _ rfl
    have c3':=c9
    go_wp2_with fail
    refine (entStat _ s).mono ?_
    rintro e w9 ⟨rfl,hb⟩
    have X10:=hide (HX.out.1.keep hb HX.out.1.z)
    have hB10:=below_call HX.out.2 HX.out.2.size hb
    clear f0 f1 f2 f3 f4 f5 f6 f7 f8 f9 c3 c9 d0 c3' s9 hb
    cases hok:statOk s with
    | false =>
      obtain rfl:R = false:=by rw [← HR.out,all_bad hlt (by rw [HS.out];unfold okS;rw [hok];simp)];simp
      clear hok
      go_wp2_with fail
      go_ret
      exact ⟨rfl,hB10⟩
    | true =>
      have HOK:=hide (all_next hlt HALL.out (by rw [HS.out];unfold okS;rw [hok,decide_eq_true HEQ.out];rfl))
      clear hok
      go_wp2_with fail
      go_roundw
      case rel => exact ⟨k + 1,by go_num,hlt,hide HOK.out,by rw [← HSA.out];exact X10.out,hB10⟩
      case measure => simp [intOf];omega
   ·have t5:(s.rows.toInt != rw) = true:=by rw [bne_iff_ne];exact heq
    obtain rfl:R = false:=by rw [← HR.out,all_bad hlt (by rw [HS.out];unfold okS;rw [decide_eq_false heq];rfl)];simp
    clear heq X X9
    have c9:=HX.out.1.cell 3 _ rfl
    go_wp2_with fail
    go_ret
    exact ⟨rfl,HX.out.2⟩
  ·have hR:=HR.out
   have e0:L.take k = L:=by rw [show k = L.length by omega,List.take_length]
   have hal:=hall.out
   rw [e0] at hal
   rw [hal] at hR
   simp only [Bool.true_eq_false,if_false] at hR
   have c1:=X.cell 1 _ rfl
   have c4:=X.cell 4 _ rfl
   have c5:=X.cell 5 _ rfl
   clear hall e0 hal
   cases kb with
   | true =>
     simp only [if_true] at hR
     by_cases g0:sc32 = 0
     ·have t6:((sc32:Int) == 0) = true:=by rw [beq_iff_eq];omega
      by_cases g1:L.length = 1
      ·have t7:((L.length:Int) == 1) = true:=by rw [beq_iff_eq];omega
       obtain rfl:R = true:=by rw [← hR];simp [g0,g1]
       clear hR g0 g1
       go_wp2_with fail
       go_ret
       exact ⟨rfl,hB⟩
      ·have t7:((L.length:Int) == 1) = false:=by rw [beq_eq_false_iff_ne];omega
       obtain rfl:R = false:=by rw [← hR];simp [g0,g1]
       clear hR g0 g1
       go_wp2_with fail
       go_ret
       exact ⟨rfl,hB⟩
     ·have t6:((sc32:Int) == 0) = false:=by rw [beq_eq_false_iff_ne];omega
      obtain rfl:R = false:=by rw [← hR];simp [g0]
      clear hR g0
      go_wp2_with fail
      go_ret
      exact ⟨rfl,hB⟩
   | false =>
     simp only [Bool.false_eq_true,if_false] at hR
     by_cases g0:sc32 = 0
     ·have t6:((sc32:Int) != 0) = false:=by rw [bne_eq_false_iff_eq];omega
      obtain rfl:R = false:=by rw [← hR];simp [g0]
      clear hR g0
      go_wp2_with fail
      go_ret
      exact ⟨rfl,hB⟩
     ·have t6:((sc32:Int) != 0) = true:=by rw [bne_iff_ne];omega
      by_cases g1:1 ≤ L.length
      ·have t7:decide ((1:Int) ≤ (L.length:Int)) = true:=decide_eq_true (by omega)
       by_cases g2:L.length ≤ 8
       ·have t8:decide ((L.length:Int) ≤ 8) = true:=decide_eq_true (by omega)
        obtain rfl:R = true:=by rw [← hR,decide_eq_false g0,decide_eq_true g1,decide_eq_true g2];rfl
        clear hR g0 g1 g2
        go_wp2_with fail
        go_ret
        exact ⟨rfl,hB⟩
       ·have t8:decide ((L.length:Int) ≤ 8) = false:=decide_eq_false (by omega)
        obtain rfl:R = false:=by rw [← hR,decide_eq_false g0,decide_eq_true g1,decide_eq_false g2];rfl
        clear hR g0 g1 g2
        go_wp2_with fail
        go_ret
        exact ⟨rfl,hB⟩
      ·have t7:decide ((1:Int) ≤ (L.length:Int)) = false:=decide_eq_false (by omega)
       obtain rfl:R = false:=by rw [← hR,decide_eq_false g0,decide_eq_false g1];rfl
       clear hR g0 g1
       go_wp2_with fail
       go_ret
       exact ⟨rfl,hB⟩

section
open Go.RowKit

theorem kStr:Maps.Keyed Tryz.prog 9:=Maps.string_keyed Tryz.underlying9
theorem kMap:Tryz.prog.underlying 182 = some (.map 9 4):=Tryz.underlying182
theorem hasNm_snoc (l:List ByteArray) (s t:ByteArray):hasNm (l ++ [s]) t = (hasNm l t || (s.toList == t.toList)):=by
 unfold hasNm
 simp
theorem hasNm_self (l:List ByteArray) (s:ByteArray):hasNm (l ++ [s]) s = true:=by rw [hasNm_snoc];simp
/-- block b is the set of these names -/
def Met (w:World) (b:Nat) (names:List ByteArray):Prop :=
 ∃ D:DataW Unit,w.ownsMap Tryz.prog 9 (plainElem Tryz.prog 4) b names.length D ∧ ∀ s:ByteArray,D.atKey (.string s.data.toList) (.lit (.bool false)) = .lit (.bool (hasNm names s))
theorem met_new (w:World):Met (w.alloc (.map #[] 0)) w.heap.size [] :=
 ⟨.map [],World.ownsMap_made w _ _ _,fun s => WideAt.atKey_none _ (by simp)⟩
section
variable {w w':World} {b:Nat} {names:List ByteArray}
theorem Met.lt (h:Met w b names):b < w.heap.size:=by
 obtain ⟨D,hD,_⟩:=h
 exact hD.lt
theorem Met.grown {row:Option Nat} (h:Met w b names) (hg:w.grownBy w' row) (hne:some b ≠ row):Met w' b names:=by
 obtain ⟨D,hD,hA⟩:=h
 exact ⟨D,hD.kept hg hne,hA⟩
theorem Met.keep (h:Met w b names) (hb:Below w.heap.size w w'):Met w' b names :=
 h.grown (row:=none) ⟨hb.os,hb.tape,hb.output,hb.size,fun k hk _ => hb.block k hk⟩ (by simp)
theorem Met.isMap (h:Met w b names):∃ es c,w.heap[b]? = some (.map es c):=by
 obtain ⟨D,hD,_⟩:=h
 obtain ⟨es,c,hb,_⟩:=hD
 exact ⟨es,c,hb⟩
theorem Met.of_block (h:Met w b names) (hb:w'.heap[b]? = w.heap[b]?):Met w' b names:=by
 obtain ⟨D,⟨es,c,h1,h2,h3,h4⟩,hA⟩:=h
 exact ⟨D,⟨es,c,hb.trans h1,h2,h3,h4⟩,hA⟩
theorem Met.wz {b2 B:Nat} (h:Met w b names) (hz:Wz b2 B w w') (hne:b ≠ b2):Met w' b names:=by
 obtain ⟨es,c,hb⟩:=h.isMap
 exact h.of_block ((hz.oth b _ hb (fun _ _ q => by cases q) hne).trans hb.symm)
theorem Met.look (h:Met w b names) (s:ByteArray) (hs:s.size ≤ maxLen):(Instr.lookup 182 (.map (some b)) (.string s) false).run Tryz.prog w = .ok (.bool (hasNm names s)) w:=by
 obtain ⟨D,hD,hA⟩:=h
 obtain ⟨v,ps,hrun,hv⟩:=hD.lookup kStr kMap (z:=.bool false) rfl (zd:=.lit (.bool false)) (zp:=[]) (plainElem_bool Tryz.underlying4 false) (Go.WideMaps.keyOf_string_mk Tryz.underlying9 hs)
 rw [hrun]
 rw [hA s] at hv
 unfold plainElem at hv
 rw [Tryz.underlying4] at hv
 cases v <;> simp at hv
 obtain ⟨hv,_⟩:=hv
 rw [hv]
theorem Met.put (h:Met w b names) (s:ByteArray) (hs:s.size ≤ maxLen) (hn:names.length < maxLen):∃ w',(Instr.mapUpdate 182 (.map (some b)) (.string s) (.bool true)).run Tryz.prog w = .ok () w' ∧ Met w' b (names ++ [s]) ∧ w.grownBy w' (some b):=by
 obtain ⟨D,hD,hA⟩:=h
 obtain ⟨w',hrun,hD2,hg⟩:=hD.update kStr kMap hn (Go.WideMaps.keyOf_string_mk Tryz.underlying9 hs) (plainElem_bool Tryz.underlying4 true)
 refine ⟨w',hrun,⟨_,by rw [List.length_append];exact hD2,fun t => ?_⟩,hg⟩
 by_cases ht:s = t
 ·subst ht
  rw [Maps.atKey_put_same hD.isMap (by trivial),hasNm_self]
 ·rw [Maps.atKey_put_other (by intro q;injection q with q;exact ht (bytes_same (by rw [ByteArray.toList_eq,ByteArray.toList_eq];exact q.symm))),hA t,hasNm_snoc]
  have:(s.toList == t.toList) = false:=by rw [beq_eq_false_iff_ne];exact fun q => ht (bytes_same q)
  rw [this,Bool.or_false]
end
/-! ### a map's block turns, and others stay -/
section
variable {w w':World} {b mb B c:Nat} {A:Option Addr} {l:List UInt8}
theorem WB.map (h:WB w b B A c l) {es:Array MapEntry} {clk:Nat} (hm:w.heap[mb]? = some (.map es clk)) (hg:w.grownBy w' (some mb)):WB w' b B A c l:=by
 obtain ⟨arr,ha⟩:=h.bx.ty
 have hne:b ≠ mb:=by rintro rfl;rw [ha] at hm;cases hm
 have hbk:w'.heap[b]? = w.heap[b]?:=hg.block b h.z (by intro q;injection q with q;exact hne q)
 refine ⟨⟨⟨fun j v hj => (World.cell?_of_block (w:=w) (a:=⟨b,j,none⟩) hbk).trans (h.bx.bx.cell j v hj),fun j hj => (World.frozen?_of_block (w:=w) (a:=⟨b,j,none⟩) hbk).trans (h.bx.bx.free j hj),Nat.lt_of_lt_of_le h.z hg.size⟩,arr,hbk.trans ha⟩,Nat.le_trans h.le hg.size,?_⟩
 refine h.own.kept (row:=some mb) hg ?_
 rcases h.own.2 with ⟨q,_⟩ | ⟨g,cap,cur,q,_,hc,_⟩
 ·rw [q];exact .inl rfl
 ·refine .inr fun r => ?_
  rw [q] at r
  simp only [Value.ownBlock] at r
  injection r with r
  subst r
  rw [hc] at hm
  cases hm
theorem BoxN.map {k:Nat} {cs:List Value} (h:BoxN w k cs) (hg:w.grownBy w' (some mb)) (hne:k ≠ mb):BoxN w' k cs:=by
 have hbk:w'.heap[k]? = w.heap[k]?:=hg.block k h.z (by intro q;injection q with q;exact hne q)
 exact ⟨fun j v hj => (World.cell?_of_block (w:=w) (a:=⟨k,j,none⟩) hbk).trans (h.cell j v hj),fun j hj => (World.frozen?_of_block (w:=w) (a:=⟨k,j,none⟩) hbk).trans (h.free j hj),Nat.lt_of_lt_of_le h.z hg.size⟩
theorem below_map (hg:w.grownBy w' (some mb)) (hB:B ≤ mb) (hz:B ≤ w.heap.size):Below B w w':=⟨hg.os,hg.tape,hg.output,hg.size,fun k hk => hg.block k (by omega) (by intro q;injection q with q;omega)⟩
end
end

section
open Go.RowKit

/-- the writer's box b, its bytes a literal's -/
structure WG (w:World) (b B q:Nat) (l:List UInt8):Prop where
 bx:BoxT w b [.slice (some ⟨q,0,none⟩) l.length l.length] 180
 le:B ≤ w.heap.size
 lit:∀ j u,(bytesV l)[j]? = some u → w.cell? ⟨q,j,none⟩ = some u
 qz:q < w.heap.size
section
variable {b B q:Nat} {w w':World} {l:List UInt8}
theorem WG.keep (h:WG w b B q l) (hb:Below w.heap.size w w'):WG w' b B q l:=⟨h.bx.keep hb,Nat.le_trans h.le hb.size,fun j u hj => (hb.cell (p:=⟨q,j,none⟩) h.qz).trans (h.lit j u hj),Nat.lt_of_lt_of_le h.qz hb.size⟩
theorem WG.drew (h:WG w b B q l):WG w.drew b B q l:=h.keep ((Below.refl _ w).drew)
theorem WG.c0 (h:WG w b B q l):w.cell? ⟨b,0,none⟩ = some (.slice (some ⟨q,0,none⟩) l.length l.length):=h.bx.bx.cell 0 _ rfl
theorem WG.olds (h:WG w b B q l):∀ b,some (⟨q,0,none⟩:Addr) = some b → ∀ j u,(bytesV l)[j]? = some u → w.cell? (b.add j) = some u:=fun b hb j u hj => by
 injection hb with hb
 subst hb
 rw [Addr.add_lit,Nat.zero_add]
 exact h.lit j u hj
theorem WG.put (h:WG w b B q l) {p:List UInt8} (hpos:0 < p.length) {w8:World} {v8:Value} (hown:w8.ownsRow w.heap.size 5 1 v8 (l.length + p.length) (bytesV l ++ bytesV p)) (hg:w.grownBy w8 none) :
 ∃ g cap,v8 = .slice (some ⟨g,0,none⟩) (l.length + p.length) cap ∧ w8.cell? ⟨b,0,none⟩ = some (.slice (some ⟨q,0,none⟩) l.length l.length) ∧ w8.frozen? ⟨b,0,none⟩ = false ∧ WB (w8.setCell ⟨b,0,none⟩ (.slice (some ⟨g,0,none⟩) (l.length + p.length) cap)) b B (some ⟨g,0,none⟩) cap (l ++ p) ∧ Wz b B w (w8.setCell ⟨b,0,none⟩ (.slice (some ⟨g,0,none⟩) (l.length + p.length) cap)):=by
 obtain ⟨g,cap,rfl,_,_⟩:=hown.form (by omega)
 have hb8:Below w.heap.size w w8:=⟨hg.os,hg.tape,hg.output,hg.size,fun k hk => hg.block k hk (by simp)⟩
 have bx:=h.bx.keep hb8
 have e1:(l ++ p).length = l.length + p.length:=List.length_append
 have hle:=h.le
 have hs:=hg.size
 refine ⟨g,cap,rfl,bx.bx.cell 0 _ rfl,bx.bx.free 0 (by simp),⟨?_,by simp;omega,?_⟩,(Wz.of hb8).set 0 _⟩
 ·rw [e1];exact bx.set (j:=0) _ rfl
 ·rw [e1,bytesV_append];exact own_setT (own_base hown hle) bx (by decide) 0 _
end
set_option maxHeartbeats 1000000 in
theorem entWNumF (w:World) (b B q:Nat) (l:List UInt8) (h:WG w b B q l) (n:Nat) (h1:n < 18446744073709551616) (hl:l.length ≤ 900000) :
 Calls Tryz.prog 101 #[.pointer (some ⟨b,0,none⟩),.int .u64 (n:Int)] w (WEnd w b B (l ++ Var.put n)):=by
 have hp:=Var.put_le10 (n:=n) h1
 have hpos:=put_pos n
 have c0:=h.c0
 obtain ⟨ti,hti,hti1,hti2,hti3⟩:=info_parts tyBytes.inf
 obtain ⟨p,hpe⟩:∃ p,Var.put n = p:=⟨_,rfl⟩
 have HV:∀ w,Calls Tryz.prog 153 #[.int .u64 (n:Int)] w (RetBytes w p):=fun w => by rw [← hpe];have:=varPut (n:Int) w (by omega) (by omega);rw [Int.toNat_natCast] at this;exact this
 rw [hpe] at hp hpos ⊢
 clear hpe h1
 go_enter Tryz.func101,Tryz.ntmps101
 go_upto_region 0 with fail
 refine wp_region_held_drew (S:=fun _ => True) (by kernel_rfl) ?_ (fun hHeld => ?_)
 ·trivial
 refine wpAnyH_take (i:=0) (v:=?_) rfl (by kernel_rfl) (by kernel_rfl) (by kernel_rfl) (fun _ _ _ h => h) (Or.inl ⟨by rfl,?_⟩) hHeld ?_
 rotate_left 1
 ·(intro w hSw;go_simp;first | done | with_reducible rfl)
 (try simp only [Act.put,zA0])
 refine wpAnyH_take (i:=1) (v:=?_) rfl (by kernel_rfl) (by kernel_rfl) (by kernel_rfl) (fun _ _ _ h => h) (Or.inl ⟨by rfl,?_⟩) hHeld ?_
 rotate_left 1
 ·(intro w hSw;go_simp;first | done | with_reducible rfl)
 (try simp only [Act.put])
 refine wpAnyH_take (i:=2) (v:=?_) rfl (by kernel_rfl) (by kernel_rfl) (by kernel_rfl) (fun _ _ _ h => h) (Or.inl ⟨by rfl,?_⟩) hHeld ?_
 rotate_left 1
 ·(intro w hSw;go_simp;first | done | with_reducible rfl)
 (try simp only [Act.put])
 refine wpAnyH_take (i:=3) (v:=?_) rfl (by kernel_rfl) (by kernel_rfl) (by kernel_rfl) (fun _ _ _ h => h) (Or.inl ⟨by rfl,?_⟩) hHeld ?_
 rotate_left 1
 ·(intro w hSw;go_simp;first | done | with_reducible rfl)
 (try simp only [Act.put])
 refine wpAnyH_take (i:=5) (v:=?_) rfl (by kernel_rfl) (by kernel_rfl) (by kernel_rfl) (fun _ _ _ h => h) (Or.inl ⟨by rfl,?_⟩) hHeld ?_
 rotate_left 1
 ·(intro w hSw;go_simp;first | done | with_reducible rfl)
 (try simp only [Act.put])
 refine wpAnyH_ready (rs:=[4,6]) (by kernel_rfl) (by simp) ?_
 refine AllReadyH.cons rfl (fun K hK => ?_) (AllReadyH.cons rfl (fun K hK => ?_) (AllReadyH.nil))
 ·go_simp
  refine hK.out _ _ trivial (fun hHeld => ?_)
  clear hK K
  (try simp only [Act.put,zA0,zB0,zC0])
  refine wpAnyH_ready (rs:=[6]) (by kernel_rfl) (by simp) ?_
  refine AllReadyH.cons rfl (fun K hK => ?_) (AllReadyH.nil)
  ·go_simp
   go_at_call 153
   refine (HV w.drew).mono ?_
   rintro e w1 ⟨v1,rfl,hown1,hb1⟩
   obtain ⟨g1,k1,rfl,hg1,hg2⟩:=hown1.form hpos
   have HW:=hide (And.intro (h.drew.keep hb1) (And.intro ((Wz.refl b B w).drew.trans (.of hb1)) (lit_own hown1)))
   have c1:=(h.drew.keep hb1).c0
   clear hb1 hown1
   refine hK.out _ _ trivial (fun hHeld => ?_)
   clear hK K
   (try simp only [Act.put,zA0,zB0,zC0])
   refine wpAnyH_ready (rs:=[7]) (by kernel_rfl) (by simp) ?_
   refine AllReadyH.cons rfl (fun K hK => ?_) (AllReadyH.nil)
   ·refine step_append_grows rfl (.tmp 8) (.tmp 10) 55 rfl 5 ti _ 1 1 Tryz.underlying55 hti hti1 hti2 hti3 tyBytes.zs (by decide) (some ⟨q,0,none⟩) l.length l.length (bytesV l) (by simp [Act.eval]) (by simp) (by rw [bytesV_length,Nat.mul_one]) HW.out.1.olds _ p.length k1 (bytesV p) (by simp [Act.eval]) (by rw [bytesV_length,Nat.mul_one]) HW.out.2.2 (bytesV_one _) (by omega) (by unfold maxLen <;> omega) (by omega) ?_
    intro v8 w8 hown8 hg8
    obtain ⟨g,cap,rfl,d0,d1,hG,hZ⟩:=HW.out.1.put hpos hown8 hg8
    have HG8:=hide (And.intro hG ((HW.out.2.1).trans hZ))
    clear hown8 hg8 hG hZ
    refine hK.out _ _ trivial (fun hHeld => ?_)
    clear hK K
    (try simp only [Act.put,zA0])
    refine wpAnyH_take (i:=8) (v:=?_) rfl (by kernel_rfl) (by kernel_rfl) (by kernel_rfl) (fun _ _ _ h => h) (Or.inl ⟨by rfl,?_⟩) hHeld ?_
    rotate_left 1
    ·(intro w hSw;go_simp;first | done | with_reducible rfl)
    (try simp only [Act.put])
    refine wpAnyH_take (i:=9) (v:=?_) rfl (by kernel_rfl) (by kernel_rfl) (by kernel_rfl) (fun _ _ _ h => h) (Or.inl ⟨by rfl,?_⟩) hHeld ?_
    rotate_left 1
    ·(intro w hSw;go_simp;first | done | with_reducible rfl)
    (try simp only [Act.put])
    refine wpAnyH_ready (rs:=[10]) (by kernel_rfl) (by simp) ?_
    refine AllReadyH.cons rfl (fun K hK => ?_) (AllReadyH.nil)
    ·go_simp
     refine hK.out _ _ trivial (fun hHeld => ?_)
     clear hK K
     (try simp only [Act.put,zA0,zB0,zC0])
     refine wpAnyH_done (by kernel_rfl) ?_ _
     go_wp2_with fail
     go_end0
     exact ⟨rfl,⟨_,_,HG8.out.1⟩,HG8.out.2⟩
 ·go_simp
  go_at_call 153
  refine (HV w.drew).mono ?_
  rintro e w1 ⟨v1,rfl,hown1,hb1⟩
  obtain ⟨g1,k1,rfl,hg1,hg2⟩:=hown1.form hpos
  have HW:=hide (And.intro (h.drew.keep hb1) (And.intro ((Wz.refl b B w).drew.trans (.of hb1)) (lit_own hown1)))
  have c1:=(h.drew.keep hb1).c0
  clear hb1 hown1
  refine hK.out _ _ trivial (fun hHeld => ?_)
  clear hK K
  (try simp only [Act.put,zA0,zB0,zC0])
  refine wpAnyH_ready (rs:=[4]) (by kernel_rfl) (by simp) ?_
  refine AllReadyH.cons rfl (fun K hK => ?_) (AllReadyH.nil)
  ·go_simp
   refine hK.out _ _ trivial (fun hHeld => ?_)
   clear hK K
   (try simp only [Act.put,zA0,zB0,zC0])
   refine wpAnyH_ready (rs:=[7]) (by kernel_rfl) (by simp) ?_
   refine AllReadyH.cons rfl (fun K hK => ?_) (AllReadyH.nil)
   ·refine step_append_grows rfl (.tmp 8) (.tmp 10) 55 rfl 5 ti _ 1 1 Tryz.underlying55 hti hti1 hti2 hti3 tyBytes.zs (by decide) (some ⟨q,0,none⟩) l.length l.length (bytesV l) (by simp [Act.eval]) (by simp) (by rw [bytesV_length,Nat.mul_one]) HW.out.1.olds _ p.length k1 (bytesV p) (by simp [Act.eval]) (by rw [bytesV_length,Nat.mul_one]) HW.out.2.2 (bytesV_one _) (by omega) (by unfold maxLen <;> omega) (by omega) ?_
    intro v8 w8 hown8 hg8
    obtain ⟨g,cap,rfl,d0,d1,hG,hZ⟩:=HW.out.1.put hpos hown8 hg8
    have HG8:=hide (And.intro hG ((HW.out.2.1).trans hZ))
    clear hown8 hg8 hG hZ
    refine hK.out _ _ trivial (fun hHeld => ?_)
    clear hK K
    (try simp only [Act.put,zA0])
    refine wpAnyH_take (i:=8) (v:=?_) rfl (by kernel_rfl) (by kernel_rfl) (by kernel_rfl) (fun _ _ _ h => h) (Or.inl ⟨by rfl,?_⟩) hHeld ?_
    rotate_left 1
    ·(intro w hSw;go_simp;first | done | with_reducible rfl)
    (try simp only [Act.put])
    refine wpAnyH_take (i:=9) (v:=?_) rfl (by kernel_rfl) (by kernel_rfl) (by kernel_rfl) (fun _ _ _ h => h) (Or.inl ⟨by rfl,?_⟩) hHeld ?_
    rotate_left 1
    ·(intro w hSw;go_simp;first | done | with_reducible rfl)
    (try simp only [Act.put])
    refine wpAnyH_ready (rs:=[10]) (by kernel_rfl) (by simp) ?_
    refine AllReadyH.cons rfl (fun K hK => ?_) (AllReadyH.nil)
    ·go_simp
     refine hK.out _ _ trivial (fun hHeld => ?_)
     clear hK K
     (try simp only [Act.put,zA0,zB0,zC0])
     refine wpAnyH_done (by kernel_rfl) ?_ _
     go_wp2_with fail
     go_end0
     exact ⟨rfl,⟨_,_,HG8.out.1⟩,HG8.out.2⟩
end


/-- what writing ends with -/
def WrEndE (w:World) (l:List En) (e:Ending) (w':World):Prop :=
 Below w.heap.size w w' ∧ ((errE l = 0 ∧ ∃ v,e = .returned (.tuple #[v,.int .i64 0]) ∧ w'.ownsRow w.heap.size 5 1 v (wrES l).length (bytesV (wrES l))) ∨
  (errE l ≠ 0 ∧ e = .returned (.tuple #[.slice none 0 0,.int .i64 (errE l:Int)])))
theorem errE_long {l:List En} (h:64 < l.length):errE l = 4:=by unfold errE;rw [if_pos h]
theorem errE_bad {l:List En} (h:¬ 64 < l.length) (h2:allE [] l = false):errE l = 1:=by unfold errE;rw [if_neg h,if_neg (by rw [h2];decide)]
theorem errE_ok {l:List En} (h:¬ 64 < l.length) (h2:allE [] l = true):errE l = 0:=by unfold errE;rw [if_neg h,if_pos h2]
theorem map_get (l:List El) (k:Nat):(l.map El.p).getD k default = (l.getD k default).p:=by
 rw [List.getD_eq_getElem?_getD,List.getD_eq_getElem?_getD,List.getElem?_map]
 cases l[k]? <;> rfl
set_option maxHeartbeats 4000000 in
theorem entWriteL (w:World) (A:Option Addr) (c:Nat) (l:List El) (ls:List En) (hls:ls = l.map El.p) (hr:EnR w w.heap.size A c l) (ht:Table w):Calls Tryz.prog 44 #[.slice A l.length c] w (WrEndE w ls):=by
 have HT:=hide ht
 have hpos:=ht.pos
 clear ht
 by_cases h64:64 < l.length
 ·have t1:decide ((64:Int) < (l.length:Int)) = true:=decide_eq_true (by omega)
  have he:=errE_long (l:=ls) (by simpa [hls] using h64)
  clear h64
  go_enter Tryz.func44,Tryz.ntmps44
  go_wp2_with fail
  go_ret2
  exact ⟨Below.refl _ _,.inr ⟨by rw [he];decide,by rw [he];rfl⟩⟩
 have t1:decide ((64:Int) < (l.length:Int)) = false:=decide_eq_false (by omega)
 have hl64:l.length ≤ 64:=by omega
 have H64:=hide h64
 clear h64
 have hmm:=@run_makeMap Tryz.prog
 have kc:=Lib.run_convert_bytes_const (P:=Tryz.prog) w 55 5 #[.int .u8 77,.int .u8 70,.int .u8 49] 3 3 Tryz.underlying55 Tryz.underlying5
 have e33:IntKind.u64.wrap (l.length:Int) = (l.length:Int):=by rw [IntKind.wrap_u64];omega
 have e34:(l.length:Int) % 18446744073709551616 = (l.length:Int):=by omega
 have hb1:=(Below.refl w.heap.size w).alloc (Nat.le_refl _) (.cells #[.int .u8 77,.int .u8 70,.int .u8 49] 5 (3,4))
 have hl1:∀ j u,(bytesV mf1)[j]? = some u → (w.alloc (.cells #[.int .u8 77,.int .u8 70,.int .u8 49] 5 (3,4))).cell? ⟨w.heap.size,j,none⟩ = some u:=fun j u hj => by
  have e:(#[Value.int .u8 77,.int .u8 70,.int .u8 49]:Array Value).toList = bytesV mf1:=rfl
  rw [World.cell?_alloc_mark, ← Array.getElem?_toList,e]
  exact hj
 have zz1:w.heap.size < (w.alloc (.cells #[.int .u8 77,.int .u8 70,.int .u8 49] 5 (3,4))).heap.size:=by simp
 go_enter Tryz.func44,Tryz.ntmps44
 go_wp2_with fail
 have eb:(w.alloc (.cells #[.int .u8 77,.int .u8 70,.int .u8 49] 5 (3,4))).heap.size = w.heap.size + 1:=by simp
 generalize w.alloc (.cells #[.int .u8 77,.int .u8 70,.int .u8 49] 5 (3,4)) = w1 at *
 have x2:=boxT_new w1 #[.slice (some ⟨w.heap.size,0,none⟩) 3 3] 180
 have hb2:=hb1.alloc (Nat.le_of_lt zz1) (.cells #[.slice (some ⟨w.heap.size,0,none⟩) 3 3] 180)
 have hb12:=(Below.refl w1.heap.size w1).alloc (Nat.le_refl _) (.cells #[.slice (some ⟨w.heap.size,0,none⟩) 3 3] 180)
 rw [eb] at x2
 have hG:WG (w1.alloc (.cells #[.slice (some ⟨w.heap.size,0,none⟩) 3 3] 180)) (w.heap.size + 1) w.heap.size w.heap.size mf1:=⟨x2,by simp;omega,fun j u hj => (hb12.cell (p:=⟨w.heap.size,j,none⟩) zz1).trans (hl1 j u hj),by simp;omega⟩
 generalize w1.alloc (.cells #[.slice (some ⟨w.heap.size,0,none⟩) 3 3] 180) = w2 at *
 obtain ⟨B,hB⟩:∃ B,B = w.heap.size:=⟨_,rfl⟩
 rw [← hB] at hG hb2 hr ⊢
 have HB:=hide hB
 clear kc x2 hb12 hl1 zz1 eb hb1 hB
 clear w1
 refine (entWNumF w2 (B + 1) B B mf1 hG l.length (by omega) (by decide)).mono ?_
 rintro e w3 ⟨rfl,⟨A3,c3,h3⟩,hz3⟩
 have hle2:=hG.le
 have hb3:Below B w w3:=hb2.trans (hz3.below (by omega) (Nat.le_refl _) hle2)
 have hM4:=met_new w3
 have hb34:=(Below.refl w3.heap.size w3).alloc (Nat.le_refl _) (.map #[] 0)
 have h4:=h3.keep hb34
 have hb4:Below B w (w3.alloc (.map #[] 0)):=hb3.alloc h3.le (.map #[] 0)
 have hmz:B + 1 < w3.heap.size:=h3.z
 clear hG hz3 hle2 hb2 h3 hb3 hb34
 go_wp2_with fail
 generalize w3.alloc (.map #[] 0) = w4 at *
 generalize w3.heap.size = mb at *
 have hlen:ls.length = l.length:=by rw [hls,List.length_map]
 have hget:∀ k,ls.getD k default = (l.getD k default).p:=fun k => by rw [hls];exact map_get l k
 clear hls
 obtain ⟨p0,hp0⟩:∃ p0,mf1 ++ Var.put l.length = p0:=⟨_,rfl⟩
 have hp0l:p0.length ≤ 13:=by
  have:=Var.put_le10 (n:=l.length) (by omega)
  have e3:mf1.length = 3:=rfl
  rw [← hp0,List.length_append]
  omega
 rw [hp0] at h4
 have HP0:=hide hp0
 clear hp0
 go_loopw [23] (fun iv wr => ∃ (k:Nat) (Ak:Option Addr) (ck:Nat),iv = .int .i64 (k:Int) ∧ k ≤ l.length ∧ Hid (∀ j,j < k → rightE (ls.getD j default) = true ∧ (ls.getD j default).name ∉ (ls.take j).map En.name) ∧ WB wr (B + 1) B Ak ck (p0 ++ entsB (ls.take k)) ∧ Met wr mb ((ls.take k).map En.name) ∧ Below B w wr) (fun iv _ => l.length - (intOf iv).toNat)
 case atStart => exact ⟨0,A3,c3,rfl,Nat.zero_le _,hide (fun j hj => by omega),by simpa [entsB] using h4,by simpa using hM4,hb4⟩
 case round =>
  clear h4 hM4 hb4
  obtain ⟨k,Ak,ck,rfl,hk,hgood,hW,hM,hbr⟩:=hrel
  by_cases hlt:k < l.length
  ·obtain ⟨gb,off,hA,hgb,hcells⟩:=(hr.below hbr).row.elA hlt
   have hin:=(hr.below hbr).ins (l.getD k default) (getD_mem hlt)
   have hgk:=hget k
   obtain ⟨x,hx⟩:∃ x,l.getD k default = x:=⟨_,rfl⟩
   obtain ⟨f0,f1,f2,f3,f4,f5⟩:=hcells x hx
   rw [hx] at hin hgk
   have hnx:entsB (ls.take (k + 1)) = entsB (ls.take k) ++ entB x.p:=by rw [← hgk];exact flat_next (by omega)
   have hnm:(ls.take (k + 1)).map En.name = (ls.take k).map En.name ++ [x.p.name]:=by
    rw [List.take_add_one,List.map_append, ← hgk]
    have:ls[k]? = some (ls.getD k default):=by rw [List.getD_eq_getElem?_getD,List.getElem?_eq_getElem (by omega)];rfl
    rw [this]
    rfl
   have HGK:=hide hgk
   have HNX:=hide hnx
   have HNM:=hide hnm
   have hxl:x.p.stats.length ≤ x.p.stats.length:=Nat.le_refl _
   have hleB:B ≤ wr.heap.size:=hW.le
   have y:=boxN_new wr #[.string x.p.name,.bool x.p.keys,.int .u64 (x.p.seq.toNat:Int),.int .i64 x.p.rows.toInt,.int .u32 (x.p.sch.toNat:Int),.slice x.A x.p.stats.length x.c] 97
   have hbA:=(Below.refl wr.heap.size wr).alloc (Nat.le_refl _) (.cells #[.string x.p.name,.bool x.p.keys,.int .u64 (x.p.seq.toNat:Int),.int .i64 x.p.rows.toInt,.int .u32 (x.p.sch.toNat:Int),.slice x.A x.p.stats.length x.c] 97)
   have hWA:=hW.keep hbA
   have hMA:=hM.keep hbA
   have hleA:=Nat.le_trans hleB hbA.size
   have hbrA:=hbr.trans (hbA.mono hleB)
   have hinA:=hin.below (hbA.mono hleB)
   have hyne:wr.heap.size ≠ mb:=by have:=hM.lt;omega
   have hyb:wr.heap.size ≠ B + 1:=by have:=hW.z;omega
   have u0:=y.cell 0 _ rfl
   have u1:=y.cell 1 _ rfl
   have u2:=y.cell 2 _ rfl
   have u3:=y.cell 3 _ rfl
   have u4:=y.cell 4 _ rfl
   have u5:=y.cell 5 _ rfl
   have HA:=hide hA
   clear hcells hx hgk hnx hnm hin hW hM hbr hxl
   rw [hA]
   clear hA
   go_upto_region 9 with fail
   generalize wr.alloc (.cells #[.string x.p.name,.bool x.p.keys,.int .u64 (x.p.seq.toNat:Int),.int .i64 x.p.rows.toInt,.int .u32 (x.p.sch.toNat:Int),.slice x.A x.p.stats.length x.c] 97) = wA at *
   generalize wr.heap.size = yb at *
   clear f0 f1 f2 f3 f4 f5
   go_wp2_with fail
   refine (entRight wA x.p x.A x.c (hinA.more (hleA))).mono ?_
   rintro e w5 ⟨rfl,hb5⟩
   have hW5:=hWA.keep hb5
   have hM5:=hMA.keep hb5
   have y5:=y.keep hb5 y.z
   have hbr5:=below_call hbrA (hleA) hb5
   have hin5:=hinA.below (hb5.mono (hleA))
   have u0:=y5.cell 0 _ rfl
   have u1:=y5.cell 1 _ rfl
   have u2:=y5.cell 2 _ rfl
   have u3:=y5.cell 3 _ rfl
   have u4:=y5.cell 4 _ rfl
   have u5:=y5.cell 5 _ rfl
   clear hWA hMA y hbrA hinA hb5 hbA
   cases hrt:rightE x.p with
   | false =>
     have hbad:=allE_bad (met:=[]) (l:=ls) (k:=k) (by omega) (.inl (by rw [HGK.out];exact hrt))
     have HBAD:=hide hbad
     clear hrt hbad
     go_wp2_with fail
     go_ret2
     rw [HB.out] at hbr5
     have h9:=errE_bad (l:=ls) (by omega) HBAD.out
     exact ⟨hbr5,.inr ⟨by rw [h9];decide,by rw [h9];rfl⟩⟩
   | true =>
     have hp24:=pathE_le (right_hasE hrt).1
     have HRT:=hide hrt
     have hlook:=hM5.look x.p.name (by unfold maxLen;omega)
     clear hrt
     cases hh:hasNm ((ls.take k).map En.name) x.p.name with
     | true =>
       rw [hh] at hlook
       have hbad:=allE_bad (met:=[]) (l:=ls) (k:=k) (by omega) (.inr (by rw [HGK.out,List.nil_append];exact hasNm_iff.1 hh))
       have HBAD:=hide hbad
       clear hh hbad
       go_wp2_with fail
       go_ret2
       rw [HB.out] at hbr5
       have h9:=errE_bad (l:=ls) (by omega) HBAD.out
       exact ⟨hbr5,.inr ⟨by rw [h9];decide,by rw [h9];rfl⟩⟩
     | false =>
       rw [hh] at hlook
       have HH:=hide hh
       clear hh
       obtain ⟨w6,hput,hM6,hg6⟩:=hM5.put x.p.name (by unfold maxLen;omega) (by rw [List.length_map,List.length_take];unfold maxLen;omega)
       obtain ⟨mes,mcl,hmb⟩:=hM5.isMap
       have y6:=y5.map hg6 hyne
       have hW6:=hW5.map hmb hg6
       have hbr6:=hbr5.trans (below_map (B:=B) hg6 (by omega) hW5.le)
       have hin6:=hin5.below (below_map (B:=B) hg6 (by omega) hW5.le)
       go_upto_region 12 with fail
       have u0:=y6.cell 0 _ rfl
       have u1:=y6.cell 1 _ rfl
       have u2:=y6.cell 2 _ rfl
       have u3:=y6.cell 3 _ rfl
       have u4:=y6.cell 4 _ rfl
       have u5:=y6.cell 5 _ rfl
       clear hput hlook hmb hg6 hM5 y5 y6 hW5 hbr5 hin5
       have hlk:(p0 ++ entsB (ls.take k)).length ≤ 300000:=by
        have h1:(entsB (ls.take k)).length ≤ (ls.take k).length * 1550:=flat_le fun z hz => by
         obtain ⟨j,hj,rfl⟩:=List.getElem_of_mem hz
         rw [List.length_take] at hj
         have:=hgood.out j (by omega)
         rw [List.getElem_take, ← getD_at _ _ (by omega)]
         exact entB_le this.1
        have h2:(ls.take k).length * 1550 ≤ 64 * 1550:=Nat.mul_le_mul_right _ (by rw [List.length_take];omega)
        rw [List.length_append]
        omega
       go_wp2_with fail
       refine (entWEntry w6 (B + 1) B Ak ck _ hW6 (by omega) x.p HRT.out x.A x.c hin6 hlk).mono ?_
       rintro e w7 ⟨rfl,⟨A7,c7,h7⟩,hz⟩
       have hM7:=hM6.wz hz (by omega)
       have hb7:=hbr6.trans (hz.below (by omega) (Nat.le_refl _) hW6.le)
       rw [List.append_assoc, ← HNX.out] at h7
       rw [← HNM.out] at hM7
       clear hW6 hz hM6 hbr6 hin6 u0 u1 u2 u3 u4 u5
       go_wp2_with fail
       go_roundw
       case rel =>
        refine ⟨k + 1,A7,c7,by go_num,hlt,hide fun j hj => ?_,h7,hM7,hb7⟩
        rcases Nat.lt_or_ge j k with hjk | hjk
        ·exact hgood.out j hjk
        ·obtain rfl:j = k:=by omega
         rw [HGK.out]
         exact ⟨HRT.out,fun q => by rw [hasNm_iff.2 q] at HH;cases HH.out⟩
       case measure => simp [intOf];omega
  ·have hkk:k = ls.length:=by omega
   have HALL:Hid (allE [] ls = true):=hide (allE_good fun j hj => by rw [List.nil_append];exact hgood.out j (by omega))
   have HW:Hid (WB wr (B + 1) B Ak ck (wrE ls)):=hide (by
    rw [hkk,List.take_length, ← HP0.out, ← hlen] at hW
    exact hW)
   have c0:=HW.out.c0
   have hrb:=rd_own HW.out.own
   have hwl:=wrE_le (allE_has HALL.out) (by omega)
   clear hW hM hkk
   go_wp2_with fail
   rw [HB.out] at hbr
   refine (crcSeal wr _ _ Ak _ hrb (HT.out.below hbr hpos) (by omega)).mono ?_
   rintro e w9 ⟨v9,rfl,hown9,hb9⟩
   go_wp2_with fail
   go_ret2
   exact ⟨below_call hbr hbr.size hb9,.inl ⟨errE_ok (by omega) HALL.out,v9,rfl,own_base hown9 hbr.size⟩⟩
theorem entWrite (w:World) (A:Option Addr) (c:Nat) (l:List El) (hr:EnR w w.heap.size A c l) (ht:Table w):Calls Tryz.prog 44 #[.slice A l.length c] w (WrEndE w (l.map El.p)):=entWriteL w A c l _ rfl hr ht


namespace Var
end Var
/-! ### the reader -/
/-- a small number -/
def rsm (most:Nat) (l:List UInt8) (bad:Bool):MNum:=if most < (mnum l bad).1 then (0,(mnum l bad).2.1,true) else mnum l bad
theorem rsm_le (most:Nat) (l:List UInt8) (bad:Bool):(rsm most l bad).1 ≤ most:=by
 unfold rsm
 split
 ·exact Nat.zero_le _
 ·omega
def ceZ:Ce:=⟨0,0,ByteArray.empty⟩
abbrev MCe:=Ce × List UInt8 × Bool
def rcell (k:UInt8) (l:List UInt8) (bad:Bool):MCe :=
 if k.toNat = 1 then (if (Var.get l).2.2 ≠ 0 ∨ bad = true then (ceZ,l,true) else (⟨1,Int64.ofInt (unzig (Var.get l).1),ByteArray.empty⟩,l.drop (Var.get l).2.1,false))
 else if k.toNat = 2 then (⟨k,Int64.ofNat (rsm 1 l bad).1,ByteArray.empty⟩,(rsm 1 l bad).2)
 else (⟨k,0,(mtext l bad).1⟩,(mtext l bad).2)
abbrev MSt:=St × List UInt8 × Bool
def stat3 (rows:Int64) (a:Nat) (h:Bool) (k:UInt8) (l:List UInt8) (bad:Bool):MSt :=
 if h = true then (⟨rows,Int64.ofNat a,true,true,(rcell k l bad).1,(rcell k (rcell k l bad).2.1 (rcell k l bad).2.2).1⟩,(rcell k (rcell k l bad).2.1 (rcell k l bad).2.2).2)
 else (⟨rows,Int64.ofNat a,true,false,(rcell k l bad).1,ceZ⟩,(rcell k l bad).2)
def stat2 (rows:Int64) (a f:Nat) (l:List UInt8) (bad:Bool):MSt :=
 if f = 0 then (⟨rows,Int64.ofNat a,false,false,ceZ,ceZ⟩,l,bad)
 else stat3 rows a (decide (f = 3)) (UInt8.ofNat (rsm 3 l bad).1) (rsm 3 l bad).2.1 (rsm 3 l bad).2.2
def rstat (rows:Int64) (l:List UInt8) (bad:Bool):MSt :=
 stat2 rows (rsm 256 l bad).1 (rsm 3 (rsm 256 l bad).2.1 (rsm 256 l bad).2.2).1 (rsm 3 (rsm 256 l bad).2.1 (rsm 256 l bad).2.2).2.1 (rsm 3 (rsm 256 l bad).2.1 (rsm 256 l bad).2.2).2.2
def rstats (rows:Int64):Nat → List UInt8 → Bool → List St → List St × List UInt8 × Bool
 | 0,l,bad,acc => (acc,l,bad)
 | n + 1,l,bad,acc => if bad = true then (acc,l,true) else rstats rows n (rstat rows l false).2.1 (rstat rows l false).2.2 (acc ++ [(rstat rows l false).1])
/-- an entry's head: name, keys, seq, rows, schema, how many statistics -/
structure Hd where
 name:ByteArray
 keys:Bool
 seq:UInt64
 rows:Int64
 sch:UInt32
 n:Nat
def rhead (l:List UInt8) (bad:Bool):Hd × List UInt8 × Bool :=
 let a:=mtext l bad
 let b:=rsm 1 a.2.1 a.2.2
 let c:=mnum b.2.1 b.2.2
 let d:=rsm 256 c.2.1 c.2.2
 let f:=rsm 4294967295 d.2.1 d.2.2
 let g:=rsm 8 f.2.1 f.2.2
 (⟨a.1,decide (b.1 = 1),UInt64.ofNat c.1,Int64.ofNat d.1,UInt32.ofNat f.1,g.1⟩,g.2)
abbrev MEn:=En × List UInt8 × Bool
def rentry (l:List UInt8) (bad:Bool):MEn :=
 let h:=rhead l bad
 let s:=rstats h.1.rows h.1.n h.2.1 h.2.2 []
 (⟨h.1.name,h.1.keys,h.1.seq,h.1.rows,h.1.sch,s.1⟩,s.2)
def rents:Nat → List UInt8 → Bool → List En → List En × List UInt8 × Bool
 | 0,l,bad,acc => (acc,l,bad)
 | n + 1,l,bad,acc => if bad = true then (acc,l,true) else rents n (rentry l false).2.1 (rentry l false).2.2 (acc ++ [(rentry l false).1])
theorem rstats_end {rows:Int64} {n:Nat} {l:List UInt8} {bad:Bool} {acc:List St} (h:n = 0 ∨ bad = true):rstats rows n l bad acc = (acc,l,bad):=by
 cases n with
 | zero => rfl
 | succ n =>
   have hb:bad = true:=by simpa using h
   rw [rstats,if_pos hb,hb]
theorem rstats_on (rows:Int64) (n:Nat) (l:List UInt8) (acc:List St):rstats rows (n + 1) l false acc = rstats rows n (rstat rows l false).2.1 (rstat rows l false).2.2 (acc ++ [(rstat rows l false).1]):=by
 rw [rstats,if_neg (by simp)]
theorem rents_end {n:Nat} {l:List UInt8} {bad:Bool} {acc:List En} (h:n = 0 ∨ bad = true):rents n l bad acc = (acc,l,bad):=by
 cases n with
 | zero => rfl
 | succ n =>
   have hb:bad = true:=by simpa using h
   rw [rents,if_pos hb,hb]
theorem rents_on (n:Nat) (l:List UInt8) (acc:List En):rents (n + 1) l false acc = rents n (rentry l false).2.1 (rentry l false).2.2 (acc ++ [(rentry l false).1]):=by
 rw [rents,if_neg (by simp)]
/-! ### what is written is read -/
theorem i64_small {n:Nat} (h:n ≤ 4294967296):(Int64.ofNat n).toInt = (n:Int):=by
 rw [Int64.toInt_ofNat_of_lt (by omega)]
/-! ### Open -/
def ents (t:List UInt8):List En × List UInt8 × Bool:=rents (rsm 64 (t.drop 3) false).1 (rsm 64 (t.drop 3) false).2.1 (rsm 64 (t.drop 3) false).2.2 []
/-- what opening ends with: the error, the entries -/
def opE (b:List UInt8):Nat × List En :=
 match open_ b with
 | none => (101,[])
 | some t => if t.length < 3 ∨ t.take 3 ≠ mf1 then (100,[]) else if (ents t).2.2 = true then (102,[]) else if errE (ents t).1 = 0 ∧ wrES (ents t).1 = b then (0,(ents t).1) else (102,[])
theorem opE_none {b:List UInt8} (h:open_ b = none):opE b = (101,[]):=by unfold opE;rw [h]
theorem opE_magic {b t:List UInt8} (h:open_ b = some t) (h2:t.length < 3 ∨ t.take 3 ≠ mf1):opE b = (100,[]):=by unfold opE;rw [h];exact if_pos h2
theorem opE_bad {b t:List UInt8} (h:open_ b = some t) (h2:¬ (t.length < 3 ∨ t.take 3 ≠ mf1)) (h3:(ents t).2.2 = true):opE b = (102,[]):=by unfold opE;rw [h];exact (if_neg h2).trans (if_pos h3)
theorem opE_other {b t:List UInt8} (h:open_ b = some t) (h2:¬ (t.length < 3 ∨ t.take 3 ≠ mf1)) (h3:¬ (ents t).2.2 = true) (h4:¬ (errE (ents t).1 = 0 ∧ wrES (ents t).1 = b)):opE b = (102,[]):=by unfold opE;rw [h];exact (if_neg h2).trans ((if_neg h3).trans (if_neg h4))
theorem opE_good {b t:List UInt8} (h:open_ b = some t) (h2:¬ (t.length < 3 ∨ t.take 3 ≠ mf1)) (h3:¬ (ents t).2.2 = true) (h4:errE (ents t).1 = 0 ∧ wrES (ents t).1 = b):opE b = (0,(ents t).1):=by unfold opE;rw [h];exact (if_neg h2).trans ((if_neg h3).trans (if_pos h4))

section
open Go.RowKit

/-- the reader at br, the result's box at B0 -/
structure GK0 (w0:World) (B0 br:Nat) (P:Nat → Prop) (zs:List Value) (A:Option Addr) (c:Nat) (l:List UInt8) (e:Bool) (wr:World):Prop where
 rd:RdrB wr br (fun k => P k ∧ k < B0) A c l e
 rb:BoxN wr B0 zs
 oth:Oth br w0 wr
 o3:br < B0
 o4:w0.heap.size ≤ B0
 nP:¬ P br
/-- and a box of one's own at bs -/
structure GK (w0:World) (B0 br bs:Nat) (P:Nat → Prop) (cs zs:List Value) (A:Option Addr) (c:Nat) (l:List UInt8) (e:Bool) (wr:World):Prop where
 g0:GK0 w0 B0 br P zs A c l e wr
 bx:BoxN wr bs cs
 o2:B0 < bs
section
variable {w0 wr w7:World} {B0 br bs c c2:Nat} {P:Nat → Prop} {cs zs:List Value} {A A2:Option Addr} {l l2:List UInt8} {e e2:Bool}
theorem gk0_new {w:World} (h:RdrB w br P A c l e) (zs:Array Value) (t:TypeId):GK0 w w.heap.size br P zs.toList A c l e (w.alloc (.cells zs t)):=by
 have hb:=(Below.refl w.heap.size w).alloc (Nat.le_refl _) (.cells zs t)
 exact ⟨(h.imp (Q:=fun k => P k ∧ k < w.heap.size) (fun k hk hl => ⟨hk,hl⟩) (fun q => h.nP q.1)).keep hb,boxN_new w zs t,.of hb,h.z,Nat.le_refl _,h.nP⟩
theorem GK0.go (h:GK0 w0 B0 br P zs A c l e wr) (hr:RdrB w7 br (fun k => P k ∧ k < B0) A2 c2 l2 e2) (ho:Oth br wr w7):GK0 w0 B0 br P zs A2 c2 l2 e2 w7 :=
 ⟨hr,h.rb.oth ho (by have:=h.o3;omega),h.oth.trans ho,h.o3,h.o4,h.nP⟩
theorem GK0.new (h:GK0 w0 B0 br P zs A c l e wr) (cs:Array Value) (t:TypeId):GK w0 B0 br wr.heap.size P cs.toList zs A c l e (wr.alloc (.cells cs t)):=by
 have hb:=(Below.refl wr.heap.size wr).alloc (Nat.le_refl _) (.cells cs t)
 exact ⟨h.go (h.rd.keep hb) (.of hb),boxN_new wr cs t,h.rb.z⟩
theorem GK0.ends (h:GK0 w0 B0 br P zs A c l e wr):∃ A c,RdrB wr br P A c l e:=⟨A,c,h.rd.imp (fun _k hk _ => hk.1) h.nP⟩
theorem GK0.res (h:GK0 w0 B0 br P zs A c l e wr) (j:Nat) (x:Value) {u:Value} (hj:zs[j]? = some u):GK0 w0 B0 br P (zs.set j x) A c l e (wr.setCell ⟨B0,j,none⟩ x) :=
 ⟨h.rd.elsewhere (p:=⟨B0,j,none⟩) (Nat.ne_of_lt h.o3) (fun q => Nat.lt_irrefl _ q.2) x,h.rb.set (j:=j) x hj,h.oth.setNew (p:=⟨B0,j,none⟩) h.o4 x,h.o3,h.o4,h.nP⟩
theorem GK.nb1 (h:GK w0 B0 br bs P cs zs A c l e wr):bs ≠ B0:=by have:=h.o2;omega
theorem GK.nb2 (h:GK w0 B0 br bs P cs zs A c l e wr):B0 ≠ bs:=by have:=h.o2;omega
theorem GK.nb3 (h:GK w0 B0 br bs P cs zs A c l e wr):br ≠ bs:=by have:=h.o2;have:=h.g0.o3;omega
theorem GK.nb4 (h:GK w0 B0 br bs P cs zs A c l e wr):bs ≠ br:=by have:=h.o2;have:=h.g0.o3;omega
theorem GK.nb5 (h:GK w0 B0 br bs P cs zs A c l e wr):br ≠ B0:=by have:=h.g0.o3;omega
theorem GK.go (h:GK w0 B0 br bs P cs zs A c l e wr) (hr:RdrB w7 br (fun k => P k ∧ k < B0) A2 c2 l2 e2) (ho:Oth br wr w7):GK w0 B0 br bs P cs zs A2 c2 l2 e2 w7 :=
 ⟨h.g0.go hr ho,h.bx.oth ho h.nb4,h.o2⟩
theorem GK.drew (h:GK w0 B0 br bs P cs zs A c l e wr):GK w0 B0 br bs P cs zs A c l e wr.drew:=h.go h.g0.rd.drew (Oth.refl br wr).drew
theorem GK.why (h:GK w0 B0 br bs P cs zs A c l e wr) (e2:Bool):GK w0 B0 br bs P cs zs A c l e2 (wr.setCell ⟨br,1,none⟩ (.bool e2)):=h.go (h.g0.rd.set1 e2) ((Oth.refl br wr).set 1 _)
theorem GK.cut (h:GK w0 B0 br bs P cs zs A c l e wr) (hr:RdP wr (fun k => P k ∧ k < B0) A2 l2.length c2 l2):GK w0 B0 br bs P cs zs A2 c2 l2 e (wr.setCell ⟨br,0,none⟩ (.slice A2 l2.length c2)):=h.go (h.g0.rd.set0 hr) ((Oth.refl br wr).set 0 _)
theorem GK.put (h:GK w0 B0 br bs P cs zs A c l e wr) (j:Nat) (x:Value) {u:Value} (hj:cs[j]? = some u):GK w0 B0 br bs P (cs.set j x) zs A c l e (wr.setCell ⟨bs,j,none⟩ x) :=
 ⟨⟨h.g0.rd.elsewhere (p:=⟨bs,j,none⟩) h.nb3 (fun q => by have h3:bs < B0:=q.2;have:=h.o2;omega) x,h.g0.rb.else (p:=⟨bs,j,none⟩) h.nb1 x,h.g0.oth.setNew (p:=⟨bs,j,none⟩) (by show w0.heap.size ≤ bs;have:=h.g0.o4;have:=h.o2;omega) x,h.g0.o3,h.g0.o4,h.g0.nP⟩,h.bx.set (j:=j) x hj,h.o2⟩
theorem GK.putcut (h:GK w0 B0 br bs P cs zs A c l e wr) (j:Nat) (x:Value) {u:Value} (hj:cs[j]? = some u) (hr:RdP wr (fun k => P k ∧ k < B0) A2 l2.length c2 l2):GK w0 B0 br bs P (cs.set j x) zs A2 c2 l2 e ((wr.setCell ⟨bs,j,none⟩ x).setCell ⟨br,0,none⟩ (.slice A2 l2.length c2)):=by
 refine (h.put j x hj).cut (hr.keep (by simp) fun p hp _ => (cell_else (p:=⟨bs,j,none⟩) (q:=p) (fun r => ?_) x).1)
 have h2:p.block = bs:=r
 have h3:p.block < B0:=hp.2
 rw [h2] at h3
 have:=h.o2
 omega
theorem GK.res (h:GK w0 B0 br bs P cs zs A c l e wr) (j:Nat) (x:Value) {u:Value} (hj:zs[j]? = some u):GK w0 B0 br bs P cs (zs.set j x) A c l e (wr.setCell ⟨B0,j,none⟩ x) :=
 ⟨h.g0.res j x hj,h.bx.else (p:=⟨B0,j,none⟩) h.nb2 x,h.o2⟩
end
def MSmEnd (w:World) (b:Nat) (P:Nat → Prop) (r:MNum) (e:Ending) (w':World):Prop :=
 e = .returned (.int .i64 (r.1:Int)) ∧ (∃ A c,RdrB w' b P A c r.2.1 r.2.2) ∧ Oth b w w'
theorem entSmall (w:World) (b:Nat) (P:Nat → Prop) (A:Option Addr) (c:Nat) (l:List UInt8) (bad:Bool) (h:RdrB w b P A c l bad) (most:Nat) (hm:most ≤ 4294967295) :
 Calls Tryz.prog 186 #[.pointer (some ⟨b,0,none⟩),.int .u64 (most:Int)] w (MSmEnd w b P (rsm most l bad)):=by
 go_enter Tryz.func186,Tryz.ntmps186
 go_wp2_with fail
 refine (entNum w b P A c l bad h).mono ?_
 rintro e w1 ⟨rfl,⟨A1,c1,h1⟩,ho⟩
 have HS:Hid (rsm most l bad = if most < (mnum l bad).1 then (0,(mnum l bad).2.1,true) else mnum l bad):=hide rfl
 obtain ⟨n,l1,b1,hn⟩:∃ n l1 b1,mnum l bad = (n,l1,b1):=⟨_,_,_,rfl⟩
 rw [hn] at h1 HS ⊢
 dsimp only at h1 HS ⊢
 have d1:=h1.c1
 have f1:=h1.f1
 clear hn
 by_cases hlt:most < n
 ·have HR:=hide (HS.out.trans (if_pos hlt))
  have t10:decide ((most:Int) < (n:Int)) = true:=decide_eq_true (by omega)
  have t11:decide (most < n) = true:=decide_eq_true hlt
  go_wp2_with fail
  go_ret
  exact ⟨by rw [HR.out];rfl,⟨A1,c1,by rw [HR.out];exact h1.set1 true⟩,ho.set 1 _⟩
 ·have HR:=hide (HS.out.trans (if_neg hlt))
  have t10:decide ((most:Int) < (n:Int)) = false:=decide_eq_false (by omega)
  have t11:decide (most < n) = false:=decide_eq_false hlt
  have e16:wrap64 (n:Int) = (n:Int):=IntWalk.wrap64_in _ ⟨by omega,by omega⟩
  go_wp2_with fail
  go_ret
  exact ⟨by rw [HR.out];rfl,⟨A1,c1,by rw [HR.out];exact h1⟩,ho⟩
theorem unzig_range {g:Nat} (h:g < 18446744073709551616) : -9223372036854775808 ≤ unzig g ∧ unzig g < 9223372036854775808:=by
 unfold unzig
 split <;> omega
def ceV (x:Ce):Array Value:=#[.int .u8 (x.kind.toNat:Int),.int .i64 x.n.toInt,.string x.s]
theorem load_ce (w:World) (b:Nat) (x y z:Value) (c0:w.cell? ⟨b,0,none⟩ = some x) (c1:w.cell? ⟨b,1,none⟩ = some y) (c2:w.cell? ⟨b,2,none⟩ = some z):(loadVar 199 ⟨b,0,none⟩).run Tryz.prog w = .ok (.agg #[x,y,z]) w:=by
 go_simp
theorem ret_ce {fn:Func} {p:Tmp} (h:fn.results = #[.cell p 199]) (tmps:Array Value) (w:World) {b:Nat} {x y z:Value} (hp:tmps.getD p undef = .pointer (some ⟨b,0,none⟩)) (hb:BoxN w b [x,y,z]) :
 (results fn tmps).run Tryz.prog w = .ok (.agg #[x,y,z]) w:=by
 rw [results_cell h,hp]
 have:=load_ce w b _ _ _ (hb.cell 0 _ rfl) (hb.cell 1 _ rfl) (hb.cell 2 _ rfl)
 simp [asAddr,Result.andThen,this]
def CeEnd (w:World) (b:Nat) (P:Nat → Prop) (r:MCe) (e:Ending) (w':World):Prop :=
 e = .returned (.agg (ceV r.1)) ∧ (∃ A c,RdrB w' b P A c r.2.1 r.2.2) ∧ Oth b w w'
theorem ceEnd_of {w0 wr:World} {B0 br:Nat} {P:Nat → Prop} {zs:List Value} {A:Option Addr} {c:Nat} {l:List UInt8} {e:Bool} {r:MCe} (h:GK0 w0 B0 br P zs A c l e wr) {k:UInt8} {n:Int64} {s:ByteArray} (hr:r = (⟨k,n,s⟩,l,e)):CeEnd w0 br P r (.returned (.agg #[.int .u8 (k.toNat:Int),.int .i64 n.toInt,.string s])) wr:=by
 subst hr
 exact ⟨rfl,h.ends,h.oth⟩
set_option maxHeartbeats 2000000 in
theorem entRCell (w:World) (b:Nat) (P:Nat → Prop) (A:Option Addr) (c:Nat) (l:List UInt8) (bad:Bool) (h:RdrB w b P A c l bad) (k:UInt8) :
 Calls Tryz.prog 246 #[.pointer (some ⟨b,0,none⟩),.int .u8 (k.toNat:Int)] w (CeEnd w b P (rcell k l bad)):=by
 have HC:Hid (rcell k l bad = if k.toNat = 1 then (if (Var.get l).2.2 ≠ 0 ∨ bad = true then (ceZ,l,true) else (⟨1,Int64.ofInt (unzig (Var.get l).1),ByteArray.empty⟩,l.drop (Var.get l).2.1,false))
  else if k.toNat = 2 then (⟨k,Int64.ofNat (rsm 1 l bad).1,ByteArray.empty⟩,(rsm 1 l bad).2)
  else (⟨k,0,(mtext l bad).1⟩,(mtext l bad).2)):=hide rfl
 obtain ⟨R,hR⟩:∃ R,rcell k l bad = R:=⟨_,rfl⟩
 rw [hR] at HC ⊢
 clear hR
 obtain ⟨kn,hkn⟩:∃ kn:Nat,k.toNat = kn:=⟨_,rfl⟩
 rw [hkn] at HC ⊢
 have HK:=hide hkn
 clear hkn
 have g0:=gk0_new h #[.int .u8 0,.int .i64 0,.string ⟨#[]⟩] 199
 have gA:=g0.new #[.int .u8 (kn:Int),.int .i64 0,.string ⟨#[]⟩] 199
 go_enter Tryz.func246,Tryz.ntmps246
 go_upto_region 2 with fail
 generalize (w.alloc (.cells #[.int .u8 0,.int .i64 0,.string ⟨#[]⟩] 199)).alloc (.cells #[.int .u8 (kn:Int),.int .i64 0,.string ⟨#[]⟩] 199) = wA at *
 have hbs:(w.alloc (.cells #[.int .u8 0,.int .i64 0,.string ⟨#[]⟩] 199)).heap.size = w.heap.size + 1:=by simp
 rw [hbs] at gA
 obtain ⟨B0,hB0⟩:∃ B,B = w.heap.size:=⟨_,rfl⟩
 obtain ⟨bs,hbs2⟩:∃ B,B = w.heap.size + 1:=⟨_,rfl⟩
 rw [← hbs2, ← hB0] at gA
 rw [← hbs2, ← hB0]
 have n3:=gA.nb3
 have n4:=gA.nb4
 have n1:=gA.nb1
 have n2:=gA.nb2
 have n5:=gA.nb5
 clear g0 hbs hB0 hbs2 h
 by_cases k1:kn = 1
 ·subst k1
  have HC1:=hide (HC.out.trans (if_pos rfl))
  have hk1:k = 1:=UInt8.toNat_inj.1 (by rw [HK.out];rfl)
  have HK1:=hide hk1
  have r0:=gA.g0.rd.c0
  have r1:=gA.g0.rd.c1
  have q0:=gA.g0.rd.f0
  have q1:=gA.g0.rd.f1
  have hrd:=gA.g0.rd.rd.rd
  clear HC hk1
  go_wp2_with fail
  refine (varGetInt wA wA.heap.size _ c A l hrd).mono ?_
  rintro e w1 ⟨rfl,rfl⟩
  have hil:IntGet l = .tuple #[.int .i64 (unzig (Var.get l).1),.int .i64 ((Var.get l).2.1:Int),.int .i64 ((Var.get l).2.2:Int)]:=rfl
  rw [hil]
  by_cases hg:(Var.get l).2.2 = 0 ∧ bad = false
  ·obtain ⟨hg,rfl⟩:=hg
   have HR:=hide (HC1.out.trans (if_neg (by rw [hg];simp)))
   have hk:(Var.get l).2.1 ≤ l.length:=(Var.get_ok (l:=l) (n:=(Var.get l).1) (k:=(Var.get l).2.1) (by rw [← hg])).2.1
   obtain ⟨A2,l2,hl2,s1,s2,hr2⟩:=gA.g0.rd.rd.lo hk
   rw [← hl2] at HR
   obtain ⟨N,hN⟩:∃ N:Int64,N.toInt = unzig (Var.get l).1:=⟨Int64.ofInt (unzig (Var.get l).1),by
    have:=unzig_range (Var.get_lt l)
    rw [Int64.toInt_ofInt_of_le (by have:=this.1;simpa using this) (by have:=this.2;simpa using this)]⟩
   have HR2:Hid (R = (⟨1,N,ByteArray.empty⟩,l2,false)):=hide (by rw [HR.out, ← hN,Int64.ofInt_toInt])
   rw [hg, ← hN]
   generalize (Var.get l).2.1 = g2 at *
   have HG:=hide gA
   have HRD:=hide hr2
   have x1:=gA.bx.cell 1 _ rfl
   have fx1:=gA.bx.free 1 (by simp)
   clear hg hN hl2 hk hil hr2 gA HR HC1
   go_upto_region 9 with fail
   go_region
   have G:=(HG.out.putcut 1 (.int .i64 N.toInt) rfl HRD.out).drew
   generalize ((wA.setCell ⟨bs,1,none⟩ (.int .i64 N.toInt)).setCell ⟨b,0,none⟩ (.slice A2 l2.length (c - g2))).drew = wB at *
   have x0:=G.bx.cell 0 _ rfl
   have x1:=G.bx.cell 1 _ rfl
   have x2:=G.bx.cell 2 _ rfl
   have z0:=G.g0.rb.cell 0 _ rfl
   have z1:=G.g0.rb.cell 1 _ rfl
   have z2:=G.g0.rb.cell 2 _ rfl
   have fz0:=G.g0.rb.free 0 (by simp)
   have fz1:=G.g0.rb.free 1 (by simp)
   have fz2:=G.g0.rb.free 2 (by simp)
   have HG2:=hide G
   clear r0 r1 q0 q1 fx1 G HG HRD s1 s2
   go_wp2_with fail
   (try simp only [Exit.inBlock,Exit.then])
   have G3:=((HG2.out.res 0 (.int .u8 ((1:Nat):Int)) rfl).res 1 (.int .i64 N.toInt) rfl).res 2 (.string ⟨#[]⟩) rfl
   refine bodyPost_ret (ret_ce (b:=B0) rfl _ _ rfl G3.g0.rb) rfl ?_
   exact ceEnd_of (k:=1) (n:=N) (s:=ByteArray.empty) G3.g0 HR2.out
  ·have HR:=hide (HC1.out.trans (if_pos (by
    apply Decidable.byContradiction
    intro q
    apply hg
    refine ⟨Decidable.byContradiction fun r => q (.inl r),?_⟩
    cases bad with
    | false => rfl
    | true => exact absurd (.inr rfl) q)))
   have z0:=gA.g0.rb.cell 0 _ rfl
   have z1:=gA.g0.rb.cell 1 _ rfl
   have z2:=gA.g0.rb.cell 2 _ rfl
   have fz0:=gA.g0.rb.free 0 (by simp)
   have fz1:=gA.g0.rb.free 1 (by simp)
   have fz2:=gA.g0.rb.free 2 (by simp)
   have HG:=hide gA
   obtain ⟨g3,hg3⟩:∃ g,g = (Var.get l).2.2:=⟨_,rfl⟩
   rw [← hg3] at hg ⊢
   generalize (Var.get l).2.1 = g2 at *
   generalize unzig (Var.get l).1 = g1 at *
   clear hg3 hil gA HC1
   have G3:=(((HG.out.why true).res 0 (.int .u8 0) rfl).res 1 (.int .i64 0) rfl).res 2 (.string ⟨#[]⟩) rfl
   have HG3:=hide G3
   clear G3
   by_cases hg0:g3 = 0
   ·subst hg0
    obtain rfl:bad = true:=by cases bad <;> simp_all
    clear hg
    go_wp2_with fail
    (try simp only [Exit.inBlock,Exit.then])
    refine bodyPost_ret (ret_ce (b:=B0) rfl _ _ rfl HG3.out.g0.rb) rfl ?_
    exact ceEnd_of (k:=0) (n:=0) (s:=ByteArray.empty) HG3.out.g0 HR.out
   ·have t2:((g3:Int) != 0) = true:=by rw [bne_iff_ne];omega
    clear hg hg0
    go_wp2_with fail
    (try simp only [Exit.inBlock,Exit.then])
    refine bodyPost_ret (ret_ce (b:=B0) rfl _ _ rfl HG3.out.g0.rb) rfl ?_
    exact ceEnd_of (k:=0) (n:=0) (s:=ByteArray.empty) HG3.out.g0 HR.out
 ·have HC2:=hide (HC.out.trans (if_neg k1))
  have t16:((kn:Int) == 1) = false:=by rw [beq_eq_false_iff_ne];omega
  clear HC
  have t17:(kn == 1) = false:=by rw [beq_eq_false_iff_ne];exact k1
  by_cases k2:kn = 2
  ·have HR:=hide (HC2.out.trans (if_pos k2))
   subst k2
   clear k1 HC2
   go_wp2_with fail
   refine (entSmall wA b _ A c l bad gA.g0.rd 1 (by decide)).mono ?_
   rintro e w1 ⟨rfl,⟨A1,c1,h1⟩,ho1⟩
   have hle:=rsm_le 1 l bad
   obtain ⟨n,l1,b1,hn⟩:∃ n l1 b1,rsm 1 l bad = (n,l1,b1):=⟨_,_,_,rfl⟩
   rw [hn] at h1 hle ⊢
   dsimp only at h1 hle ⊢
   have G:=gA.go h1 ho1
   have HR2:Hid (R = (⟨k,Int64.ofNat n,ByteArray.empty⟩,l1,b1)):=hide (by rw [HR.out,hn])
   have en:(Int64.ofNat n).toInt = (n:Int):=i64_small (by omega)
   clear hn h1 HR
   have x0:=G.bx.cell 0 _ rfl
   have x1:=G.bx.cell 1 _ rfl
   have x2:=G.bx.cell 2 _ rfl
   have z0:=G.g0.rb.cell 0 _ rfl
   have z1:=G.g0.rb.cell 1 _ rfl
   have z2:=G.g0.rb.cell 2 _ rfl
   have fz0:=G.g0.rb.free 0 (by simp)
   have fz1:=G.g0.rb.free 1 (by simp)
   have fz2:=G.g0.rb.free 2 (by simp)
   have fx1:=G.bx.free 1 (by simp)
   have fx2:=G.bx.free 2 (by simp)
   have HG:=hide G
   clear G gA ho1
   go_wp2_with fail
   (try simp only [Exit.inBlock,Exit.then])
   have G3:=(((HG.out.put 1 (.int .i64 (n:Int)) rfl).res 0 (.int .u8 ((2:Nat):Int)) rfl).res 1 (.int .i64 (n:Int)) rfl).res 2 (.string ⟨#[]⟩) rfl
   refine bodyPost_ret (ret_ce (b:=B0) rfl _ _ rfl G3.g0.rb) rfl ?_
   have:=ceEnd_of (k:=k) (n:=Int64.ofNat n) (s:=ByteArray.empty) G3.g0 HR2.out
   rw [HK.out,en] at this
   exact this
  ·have HR:=hide (HC2.out.trans (if_neg k2))
   have t18:((kn:Int) == 2) = false:=by rw [beq_eq_false_iff_ne];omega
   clear k1 HC2
   go_wp2_with fail
   refine (entText wA b _ A c l bad gA.g0.rd).mono ?_
   rintro e w1 ⟨rfl,⟨A1,c1,h1⟩,ho1⟩
   obtain ⟨s,l1,b1,hn⟩:∃ s l1 b1,mtext l bad = (s,l1,b1):=⟨_,_,_,rfl⟩
   rw [hn] at h1 ⊢
   dsimp only at h1 ⊢
   have G:=gA.go h1 ho1
   have HR2:Hid (R = (⟨k,0,s⟩,l1,b1)):=hide (by rw [HR.out,hn])
   clear hn h1 HR
   have x0:=G.bx.cell 0 _ rfl
   have x1:=G.bx.cell 1 _ rfl
   have x2:=G.bx.cell 2 _ rfl
   have z0:=G.g0.rb.cell 0 _ rfl
   have z1:=G.g0.rb.cell 1 _ rfl
   have z2:=G.g0.rb.cell 2 _ rfl
   have fz0:=G.g0.rb.free 0 (by simp)
   have fz1:=G.g0.rb.free 1 (by simp)
   have fz2:=G.g0.rb.free 2 (by simp)
   have fx1:=G.bx.free 1 (by simp)
   have fx2:=G.bx.free 2 (by simp)
   have HG:=hide G
   clear G gA ho1
   go_wp2_with fail
   (try simp only [Exit.inBlock,Exit.then])
   have G3:=(((HG.out.put 2 (.string s) rfl).res 0 (.int .u8 (kn:Int)) rfl).res 1 (.int .i64 0) rfl).res 2 (.string s) rfl
   refine bodyPost_ret (ret_ce (b:=B0) rfl _ _ rfl G3.g0.rb) rfl ?_
   have:=ceEnd_of (k:=k) (n:=0) (s:=s) G3.g0 HR2.out
   rw [HK.out] at this
   exact this
end


def stA (s:St):Array Value:=#[.int .i64 s.rows.toInt,.int .i64 s.nulls.toInt,.bool s.som,.bool s.high,.int .u8 (s.mn.kind.toNat:Int),.int .i64 s.mn.n.toInt,.string s.mn.s,.int .u8 (s.mx.kind.toNat:Int),.int .i64 s.mx.n.toInt,.string s.mx.s]
theorem load_st (w:World) (b:Nat) (v0 v1 v2 v3 v4 v5 v6 v7 v8 v9:Value) (c0:w.cell? ⟨b,0,none⟩ = some v0) (c1:w.cell? ⟨b,1,none⟩ = some v1) (c2:w.cell? ⟨b,2,none⟩ = some v2) (c3:w.cell? ⟨b,3,none⟩ = some v3) (c4:w.cell? ⟨b,4,none⟩ = some v4)
 (c5:w.cell? ⟨b,5,none⟩ = some v5) (c6:w.cell? ⟨b,6,none⟩ = some v6) (c7:w.cell? ⟨b,7,none⟩ = some v7) (c8:w.cell? ⟨b,8,none⟩ = some v8) (c9:w.cell? ⟨b,9,none⟩ = some v9) :
 (loadVar 201 ⟨b,0,none⟩).run Tryz.prog w = .ok (.agg #[v0,v1,v2,v3,v4,v5,v6,v7,v8,v9]) w:=by
 go_simp
theorem ret_st {fn:Func} {p:Tmp} (h:fn.results = #[.cell p 201]) (tmps:Array Value) (w:World) {b:Nat} {v0 v1 v2 v3 v4 v5 v6 v7 v8 v9:Value} (hp:tmps.getD p undef = .pointer (some ⟨b,0,none⟩)) (hb:BoxN w b [v0,v1,v2,v3,v4,v5,v6,v7,v8,v9]) :
 (results fn tmps).run Tryz.prog w = .ok (.agg #[v0,v1,v2,v3,v4,v5,v6,v7,v8,v9]) w:=by
 rw [results_cell h,hp]
 have:=load_st w b _ _ _ _ _ _ _ _ _ _ (hb.cell 0 _ rfl) (hb.cell 1 _ rfl) (hb.cell 2 _ rfl) (hb.cell 3 _ rfl) (hb.cell 4 _ rfl) (hb.cell 5 _ rfl) (hb.cell 6 _ rfl) (hb.cell 7 _ rfl) (hb.cell 8 _ rfl) (hb.cell 9 _ rfl)
 simp [asAddr,Result.andThen,this]
def StEnd (w:World) (b:Nat) (P:Nat → Prop) (r:MSt) (e:Ending) (w':World):Prop :=
 e = .returned (.agg (stA r.1)) ∧ (∃ A c,RdrB w' b P A c r.2.1 r.2.2) ∧ Oth b w w'
theorem stEnd_of (s:St) {w0 wr:World} {B0 br:Nat} {P:Nat → Prop} {zs:List Value} {A:Option Addr} {c:Nat} {l:List UInt8} {e:Bool} {r:MSt} {a:Array Value} (h:GK0 w0 B0 br P zs A c l e wr) (hr:r = (s,l,e)) (ha:stA s = a):StEnd w0 br P r (.returned (.agg a)) wr:=by
 subst hr ha
 exact ⟨rfl,h.ends,h.oth⟩
set_option maxHeartbeats 4000000 in
theorem entRStat (w:World) (b:Nat) (P:Nat → Prop) (A:Option Addr) (c:Nat) (l:List UInt8) (bad:Bool) (h:RdrB w b P A c l bad) (rows:Int64) :
 Calls Tryz.prog 221 #[.pointer (some ⟨b,0,none⟩),.int .i64 rows.toInt] w (StEnd w b P (rstat rows l bad)):=by
 have HC:Hid (rstat rows l bad = stat2 rows (rsm 256 l bad).1 (rsm 3 (rsm 256 l bad).2.1 (rsm 256 l bad).2.2).1 (rsm 3 (rsm 256 l bad).2.1 (rsm 256 l bad).2.2).2.1 (rsm 3 (rsm 256 l bad).2.1 (rsm 256 l bad).2.2).2.2):=hide rfl
 obtain ⟨R,hR⟩:∃ R,rstat rows l bad = R:=⟨_,rfl⟩
 rw [hR] at HC ⊢
 clear hR
 have g0:=gk0_new h #[.int .i64 0,.int .i64 0,.bool false,.bool false,.int .u8 0,.int .i64 0,.string ⟨#[]⟩,.int .u8 0,.int .i64 0,.string ⟨#[]⟩] 201
 go_enter Tryz.func221,Tryz.ntmps221
 go_wp2_with fail
 generalize w.alloc (.cells #[.int .i64 0,.int .i64 0,.bool false,.bool false,.int .u8 0,.int .i64 0,.string ⟨#[]⟩,.int .u8 0,.int .i64 0,.string ⟨#[]⟩] 201) = w1 at *
 obtain ⟨B0,hB0⟩:∃ B,B = w.heap.size:=⟨_,rfl⟩
 rw [← hB0] at g0 ⊢
 clear h hB0
 refine (entSmall w1 b _ A c l bad g0.rd 256 (by decide)).mono ?_
 rintro e w2 ⟨rfl,⟨A1,c1,h1⟩,ho1⟩
 have hle:=rsm_le 256 l bad
 obtain ⟨a,l1,b1,hn⟩:∃ n l1 b1,rsm 256 l bad = (n,l1,b1):=⟨_,_,_,rfl⟩
 rw [hn] at h1 hle HC ⊢
 dsimp only at h1 hle HC ⊢
 have G0:=g0.go h1 ho1
 have gA:=G0.new #[.int .i64 rows.toInt,.int .i64 (a:Int),.bool false,.bool false,.int .u8 0,.int .i64 0,.string ⟨#[]⟩,.int .u8 0,.int .i64 0,.string ⟨#[]⟩] 201
 have ena:(Int64.ofNat a).toInt = (a:Int):=i64_small (by omega)
 have HENA:=hide ena
 clear hn h1 ho1 g0 G0 ena hle
 go_wp2_with fail
 generalize w2.alloc (.cells #[.int .i64 rows.toInt,.int .i64 (a:Int),.bool false,.bool false,.int .u8 0,.int .i64 0,.string ⟨#[]⟩,.int .u8 0,.int .i64 0,.string ⟨#[]⟩] 201) = wA at *
 generalize w2.heap.size = bs at *
 refine (entSmall wA b _ A1 c1 l1 b1 gA.g0.rd 3 (by decide)).mono ?_
 rintro e w3 ⟨rfl,⟨A2,c2,h1⟩,ho1⟩
 have hle:=rsm_le 3 l1 b1
 obtain ⟨f,l2,b2,hn⟩:∃ x y z,rsm 3 l1 b1 = (x,y,z):=⟨_,_,_,rfl⟩
 rw [hn] at h1 hle HC ⊢
 dsimp only at h1 hle HC ⊢
 have G:=gA.go h1 ho1
 have n3:=G.nb3
 have n4:=G.nb4
 have n1:=G.nb1
 have n2:=G.nb2
 have n5:=G.nb5
 clear hn h1 ho1 gA
 by_cases hf:f = 0
 ·subst hf
  have HR:Hid (R = (⟨rows,Int64.ofNat a,false,false,ceZ,ceZ⟩,l2,b2)):=hide (HC.out.trans (if_pos rfl))
  clear HC hle
  have x0:=G.bx.cell 0 _ rfl
  have x1:=G.bx.cell 1 _ rfl
  have x2:=G.bx.cell 2 _ rfl
  have x3:=G.bx.cell 3 _ rfl
  have x4:=G.bx.cell 4 _ rfl
  have x5:=G.bx.cell 5 _ rfl
  have x6:=G.bx.cell 6 _ rfl
  have x7:=G.bx.cell 7 _ rfl
  have x8:=G.bx.cell 8 _ rfl
  have x9:=G.bx.cell 9 _ rfl
  have z0:=G.g0.rb.cell 0 _ rfl
  have z1:=G.g0.rb.cell 1 _ rfl
  have z2:=G.g0.rb.cell 2 _ rfl
  have z3:=G.g0.rb.cell 3 _ rfl
  have z4:=G.g0.rb.cell 4 _ rfl
  have z5:=G.g0.rb.cell 5 _ rfl
  have z6:=G.g0.rb.cell 6 _ rfl
  have z7:=G.g0.rb.cell 7 _ rfl
  have z8:=G.g0.rb.cell 8 _ rfl
  have z9:=G.g0.rb.cell 9 _ rfl
  have fz0:=G.g0.rb.free 0 (by simp)
  have fz1:=G.g0.rb.free 1 (by simp)
  have fz2:=G.g0.rb.free 2 (by simp)
  have fz3:=G.g0.rb.free 3 (by simp)
  have fz4:=G.g0.rb.free 4 (by simp)
  have fz5:=G.g0.rb.free 5 (by simp)
  have fz6:=G.g0.rb.free 6 (by simp)
  have fz7:=G.g0.rb.free 7 (by simp)
  have fz8:=G.g0.rb.free 8 (by simp)
  have fz9:=G.g0.rb.free 9 (by simp)
  have HG:=hide G
  clear G
  go_wp2_with fail
  (try simp only [Exit.inBlock,Exit.then])
  have G9:=((((((((((HG.out.res 0 (.int .i64 rows.toInt) rfl).res 1 (.int .i64 (a:Int)) rfl).res 2 (.bool false) rfl).res 3 (.bool false) rfl).res 4 (.int .u8 0) rfl).res 5 (.int .i64 0) rfl).res 6 (.string ⟨#[]⟩) rfl).res 7 (.int .u8 0) rfl).res 8 (.int .i64 0) rfl).res 9 (.string ⟨#[]⟩) rfl)
  refine bodyPost_ret (ret_st (b:=B0) rfl _ _ rfl G9.g0.rb) rfl ?_
  exact stEnd_of ⟨rows,Int64.ofNat a,false,false,ceZ,ceZ⟩ G9.g0 HR.out (by simp only [stA,HENA.out] <;> rfl)
 ·have HC2:Hid (R = stat3 rows a (decide (f = 3)) (UInt8.ofNat (rsm 3 l2 b2).1) (rsm 3 l2 b2).2.1 (rsm 3 l2 b2).2.2):=hide (HC.out.trans (if_neg hf))
  obtain ⟨hi,hhi⟩:∃ hi,hi = decide (f = 3):=⟨_,rfl⟩
  rw [← hhi] at HC2
  have t15:((f:Int) == 0) = false:=by rw [beq_eq_false_iff_ne];omega
  have t18:((f:Int) == 3) = hi:=by rw [hhi,Bool.eq_iff_iff];simp only [beq_iff_eq,decide_eq_true_eq];omega
  have x2:=G.bx.cell 2 _ rfl
  have x3:=G.bx.cell 3 _ rfl
  have fx2:=G.bx.free 2 (by simp)
  have fx3:=G.bx.free 3 (by simp)
  have HG:=hide G
  clear HC hhi G hle
  go_upto_region 6 with fail
  have G:=(HG.out.put 2 (.bool true) rfl).put 3 (.bool hi) rfl
  generalize (w3.setCell ⟨bs,2,none⟩ (.bool true)).setCell ⟨bs,3,none⟩ (.bool hi) = w4 at *
  clear x2 x3 fx2 fx3 HG hf t15 t18
  go_wp2_with fail
  refine (entSmall w4 b _ A2 c2 l2 b2 G.g0.rd 3 (by decide)).mono ?_
  rintro e w5 ⟨rfl,⟨A3,c3,h1⟩,ho1⟩
  have hle:=rsm_le 3 l2 b2
  obtain ⟨kk,l3,b3,hn⟩:∃ n l1 b1,rsm 3 l2 b2 = (n,l1,b1):=⟨_,_,_,rfl⟩
  rw [hn] at h1 hle HC2 ⊢
  dsimp only at h1 hle HC2 ⊢
  have G5:=G.go h1 ho1
  obtain ⟨k,hk⟩:∃ k:UInt8,k = UInt8.ofNat kk:=⟨_,rfl⟩
  rw [← hk] at HC2
  have hkn:k.toNat = kk:=by rw [hk,UInt8.toNat_ofNat'];omega
  have e22:IntKind.u8.wrap (kk:Int) = (k.toNat:Int):=by rw [IntKind.wrap_u8,hkn];omega
  have e23:(kk:Int) % 256 = (k.toNat:Int):=by rw [hkn];omega
  clear hn h1 ho1 G hle hk hkn
  go_wp2_with fail
  refine (entRCell w5 b _ A3 c3 l3 b3 G5.g0.rd k).mono ?_
  rintro e w6 ⟨rfl,⟨A4,c4,h1⟩,ho1⟩
  have G6:=G5.go h1 ho1
  obtain ⟨mn,l4,b4,hn⟩:∃ n l1 b1,rcell k l3 b3 = (n,l1,b1):=⟨_,_,_,rfl⟩
  rw [hn] at G6 ⊢
  dsimp only [ceV] at G6 ⊢
  have HC3:Hid (R = stat3 rows a hi k l3 b3):=hide HC2.out
  have HN4:=hide hn
  clear HC2 hn h1 ho1 G5 e22 e23
  have fx4:=G6.bx.free 4 (by simp)
  have fx5:=G6.bx.free 5 (by simp)
  have fx6:=G6.bx.free 6 (by simp)
  have x4:=G6.bx.cell 4 _ rfl
  have x5:=G6.bx.cell 5 _ rfl
  have x6:=G6.bx.cell 6 _ rfl
  have HG:=hide G6
  clear G6
  go_upto_region 8 with fail
  have G:=((HG.out.put 4 (.int .u8 (mn.kind.toNat:Int)) rfl).put 5 (.int .i64 mn.n.toInt) rfl).put 6 (.string mn.s) rfl
  generalize ((w6.setCell ⟨bs,4,none⟩ (.int .u8 (mn.kind.toNat:Int))).setCell ⟨bs,5,none⟩ (.int .i64 mn.n.toInt)).setCell ⟨bs,6,none⟩ (.string mn.s) = w7 at *
  clear fx4 fx5 fx6 x4 x5 x6 HG
  cases hi with
  | false =>
    have HR:Hid (R = (⟨rows,Int64.ofNat a,true,false,mn,ceZ⟩,l4,b4)):=hide (HC3.out.trans ((if_neg (by simp)).trans (by rw [HN4.out])))
    clear HC3
    have x0:=G.bx.cell 0 _ rfl
    have x1:=G.bx.cell 1 _ rfl
    have x2:=G.bx.cell 2 _ rfl
    have x3:=G.bx.cell 3 _ rfl
    have x4:=G.bx.cell 4 _ rfl
    have x5:=G.bx.cell 5 _ rfl
    have x6:=G.bx.cell 6 _ rfl
    have x7:=G.bx.cell 7 _ rfl
    have x8:=G.bx.cell 8 _ rfl
    have x9:=G.bx.cell 9 _ rfl
    have z0:=G.g0.rb.cell 0 _ rfl
    have z1:=G.g0.rb.cell 1 _ rfl
    have z2:=G.g0.rb.cell 2 _ rfl
    have z3:=G.g0.rb.cell 3 _ rfl
    have z4:=G.g0.rb.cell 4 _ rfl
    have z5:=G.g0.rb.cell 5 _ rfl
    have z6:=G.g0.rb.cell 6 _ rfl
    have z7:=G.g0.rb.cell 7 _ rfl
    have z8:=G.g0.rb.cell 8 _ rfl
    have z9:=G.g0.rb.cell 9 _ rfl
    have fz0:=G.g0.rb.free 0 (by simp)
    have fz1:=G.g0.rb.free 1 (by simp)
    have fz2:=G.g0.rb.free 2 (by simp)
    have fz3:=G.g0.rb.free 3 (by simp)
    have fz4:=G.g0.rb.free 4 (by simp)
    have fz5:=G.g0.rb.free 5 (by simp)
    have fz6:=G.g0.rb.free 6 (by simp)
    have fz7:=G.g0.rb.free 7 (by simp)
    have fz8:=G.g0.rb.free 8 (by simp)
    have fz9:=G.g0.rb.free 9 (by simp)
    have HG:=hide G
    clear G
    go_wp2_with fail
    (try simp only [Exit.inBlock,Exit.then])
    have G9:=((((((((((HG.out.res 0 (.int .i64 rows.toInt) rfl).res 1 (.int .i64 (a:Int)) rfl).res 2 (.bool true) rfl).res 3 (.bool false) rfl).res 4 (.int .u8 (mn.kind.toNat:Int)) rfl).res 5 (.int .i64 mn.n.toInt) rfl).res 6 (.string mn.s) rfl).res 7 (.int .u8 0) rfl).res 8 (.int .i64 0) rfl).res 9 (.string ⟨#[]⟩) rfl)
    refine bodyPost_ret (ret_st (b:=B0) rfl _ _ rfl G9.g0.rb) rfl ?_
    exact stEnd_of ⟨rows,Int64.ofNat a,true,false,mn,ceZ⟩ G9.g0 HR.out (by simp only [stA,HENA.out] <;> rfl)
  | true =>
    have HC4:Hid (R = (⟨rows,Int64.ofNat a,true,true,mn,(rcell k l4 b4).1⟩,(rcell k l4 b4).2)):=hide (HC3.out.trans ((if_pos rfl).trans (by rw [HN4.out])))
    have x3:=G.bx.cell 3 _ rfl
    clear HC3
    go_wp2_with fail
    refine (entRCell w7 b _ A4 c4 l4 b4 G.g0.rd k).mono ?_
    rintro e w8 ⟨rfl,⟨A5,c5,h1⟩,ho1⟩
    have G8:=G.go h1 ho1
    obtain ⟨mx,l5,b5,hn⟩:∃ n l1 b1,rcell k l4 b4 = (n,l1,b1):=⟨_,_,_,rfl⟩
    rw [hn] at G8 ⊢
    dsimp only [ceV] at G8 ⊢
    have HR:Hid (R = (⟨rows,Int64.ofNat a,true,true,mn,mx⟩,l5,b5)):=hide (HC4.out.trans (by rw [hn]))
    clear HC4 hn h1 ho1 G x3
    have fx7:=G8.bx.free 7 (by simp)
    have fx8:=G8.bx.free 8 (by simp)
    have fx9:=G8.bx.free 9 (by simp)
    have x7:=G8.bx.cell 7 _ rfl
    have x8:=G8.bx.cell 8 _ rfl
    have x9:=G8.bx.cell 9 _ rfl
    have HG:=hide G8
    clear G8
    go_upto_region 10 with fail
    have G:=((HG.out.put 7 (.int .u8 (mx.kind.toNat:Int)) rfl).put 8 (.int .i64 mx.n.toInt) rfl).put 9 (.string mx.s) rfl
    generalize ((w8.setCell ⟨bs,7,none⟩ (.int .u8 (mx.kind.toNat:Int))).setCell ⟨bs,8,none⟩ (.int .i64 mx.n.toInt)).setCell ⟨bs,9,none⟩ (.string mx.s) = w9 at *
    clear fx7 fx8 fx9 x7 x8 x9 HG
    have x0:=G.bx.cell 0 _ rfl
    have x1:=G.bx.cell 1 _ rfl
    have x2:=G.bx.cell 2 _ rfl
    have x3:=G.bx.cell 3 _ rfl
    have x4:=G.bx.cell 4 _ rfl
    have x5:=G.bx.cell 5 _ rfl
    have x6:=G.bx.cell 6 _ rfl
    have x7:=G.bx.cell 7 _ rfl
    have x8:=G.bx.cell 8 _ rfl
    have x9:=G.bx.cell 9 _ rfl
    have z0:=G.g0.rb.cell 0 _ rfl
    have z1:=G.g0.rb.cell 1 _ rfl
    have z2:=G.g0.rb.cell 2 _ rfl
    have z3:=G.g0.rb.cell 3 _ rfl
    have z4:=G.g0.rb.cell 4 _ rfl
    have z5:=G.g0.rb.cell 5 _ rfl
    have z6:=G.g0.rb.cell 6 _ rfl
    have z7:=G.g0.rb.cell 7 _ rfl
    have z8:=G.g0.rb.cell 8 _ rfl
    have z9:=G.g0.rb.cell 9 _ rfl
    have fz0:=G.g0.rb.free 0 (by simp)
    have fz1:=G.g0.rb.free 1 (by simp)
    have fz2:=G.g0.rb.free 2 (by simp)
    have fz3:=G.g0.rb.free 3 (by simp)
    have fz4:=G.g0.rb.free 4 (by simp)
    have fz5:=G.g0.rb.free 5 (by simp)
    have fz6:=G.g0.rb.free 6 (by simp)
    have fz7:=G.g0.rb.free 7 (by simp)
    have fz8:=G.g0.rb.free 8 (by simp)
    have fz9:=G.g0.rb.free 9 (by simp)
    have HG:=hide G
    clear G
    go_wp2_with fail
    (try simp only [Exit.inBlock,Exit.then])
    have G9:=((((((((((HG.out.res 0 (.int .i64 rows.toInt) rfl).res 1 (.int .i64 (a:Int)) rfl).res 2 (.bool true) rfl).res 3 (.bool true) rfl).res 4 (.int .u8 (mn.kind.toNat:Int)) rfl).res 5 (.int .i64 mn.n.toInt) rfl).res 6 (.string mn.s) rfl).res 7 (.int .u8 (mx.kind.toNat:Int)) rfl).res 8 (.int .i64 mx.n.toInt) rfl).res 9 (.string mx.s) rfl)
    refine bodyPost_ret (ret_st (b:=B0) rfl _ _ rfl G9.g0.rb) rfl ?_
    exact stEnd_of ⟨rows,Int64.ofNat a,true,true,mn,mx⟩ G9.g0 HR.out (by simp only [stA,HENA.out] <;> rfl)

section
open Go.RowKit

theorem entRStatN (w:World) (b:Nat) (P:Nat → Prop) (A:Option Addr) (c:Nat) (l:List UInt8) (bad:Bool) (h:RdrB w b P A c l bad) (rn:Nat) (hn:rn ≤ 256) :
 Calls Tryz.prog 221 #[.pointer (some ⟨b,0,none⟩),.int .i64 (rn:Int)] w (StEnd w b P (rstat (Int64.ofNat rn) l bad)):=by
 have:=entRStat w b P A c l bad h (Int64.ofNat rn)
 rw [i64_small (by omega)] at this
 exact this
theorem rentry_of {l l1 l2 l3 l4 l5 l6 l7:List UInt8} {bad b1 b2 b3 b4 b5 b6 b7:Bool} {nm:ByteArray} {ks sq rn sc n:Nat} {sts:List St} (ha:mtext l bad = (nm,l1,b1)) (hb:rsm 1 l1 b1 = (ks,l2,b2)) (hc:mnum l2 b2 = (sq,l3,b3)) (hd:rsm 256 l3 b3 = (rn,l4,b4)) (hf:rsm 4294967295 l4 b4 = (sc,l5,b5)) (hg:rsm 8 l5 b5 = (n,l6,b6)) (hq:rstats (Int64.ofNat rn) n l6 b6 [] = (sts,l7,b7)) :
 rentry l bad = (⟨nm,decide (ks = 1),UInt64.ofNat sq,Int64.ofNat rn,UInt32.ofNat sc,sts⟩,l7,b7):=by
 simp only [rentry,rhead,ha,hb,hc,hd,hf,hg,hq]
def elA (x:En) (F:Option Addr) (fc:Nat):Array Value:=#[.string x.name,.bool x.keys,.int .u64 (x.seq.toNat:Int),.int .i64 x.rows.toInt,.int .u32 (x.sch.toNat:Int),.slice F x.stats.length fc]
theorem load_en (w:World) (b:Nat) (v0 v1 v2 v3 v4 v5:Value) (c0:w.cell? ⟨b,0,none⟩ = some v0) (c1:w.cell? ⟨b,1,none⟩ = some v1) (c2:w.cell? ⟨b,2,none⟩ = some v2) (c3:w.cell? ⟨b,3,none⟩ = some v3) (c4:w.cell? ⟨b,4,none⟩ = some v4) (c5:w.cell? ⟨b,5,none⟩ = some v5) :
 (loadVar 97 ⟨b,0,none⟩).run Tryz.prog w = .ok (.agg #[v0,v1,v2,v3,v4,v5]) w:=by
 go_simp
theorem ret_en {fn:Func} {p:Tmp} (h:fn.results = #[.cell p 97]) (tmps:Array Value) (w:World) {b:Nat} {v0 v1 v2 v3 v4 v5:Value} (hp:tmps.getD p undef = .pointer (some ⟨b,0,none⟩)) (hb:BoxN w b [v0,v1,v2,v3,v4,v5]) :
 (results fn tmps).run Tryz.prog w = .ok (.agg #[v0,v1,v2,v3,v4,v5]) w:=by
 rw [results_cell h,hp]
 have:=load_en w b _ _ _ _ _ _ (hb.cell 0 _ rfl) (hb.cell 1 _ rfl) (hb.cell 2 _ rfl) (hb.cell 3 _ rfl) (hb.cell 4 _ rfl) (hb.cell 5 _ rfl)
 simp [asAddr,Result.andThen,this]
/-- within reader.entry -/
structure GE (w0:World) (B0 br bs:Nat) (P:Nat → Prop) (nm:ByteArray) (kb:Bool) (sq rn sc:Nat) (zs:List Value) (A:Option Addr) (c:Nat) (l:List UInt8) (e:Bool) (fA:Option Addr) (fc:Nat) (ms:List St) (wr:World):Prop where
 gk:GK w0 B0 br bs P [.string nm,.bool kb,.int .u64 (sq:Int),.int .i64 (rn:Int),.int .u32 (sc:Int),.slice fA ms.length fc] zs A c l e wr
 own:wr.ownsRow (bs + 1) 201 10 (.slice fA ms.length fc) ms.length (stsV ms)
section
variable {w0 wr w7:World} {B0 br bs c fc sq rn sc:Nat} {P:Nat → Prop} {e kb:Bool} {nm:ByteArray} {zs:List Value} {A fA:Option Addr} {l:List UInt8} {ms:List St}
theorem GE.go (h:GE w0 B0 br bs P nm kb sq rn sc zs A c l e fA fc ms wr) {A2:Option Addr} {c2:Nat} {l2:List UInt8} {e2:Bool} (hr:RdrB w7 br (fun k => P k ∧ k < B0) A2 c2 l2 e2) (ho:Oth br wr w7):GE w0 B0 br bs P nm kb sq rn sc zs A2 c2 l2 e2 fA fc ms w7 :=
 ⟨h.gk.go hr ho,own_oth h.own ho (by have:=h.gk.o2;have:=h.gk.g0.o3;omega)⟩
theorem GE.drew (h:GE w0 B0 br bs P nm kb sq rn sc zs A c l e fA fc ms wr):GE w0 B0 br bs P nm kb sq rn sc zs A c l e fA fc ms wr.drew:=h.go h.gk.g0.rd.drew (Oth.refl br wr).drew
theorem GE.res (h:GE w0 B0 br bs P nm kb sq rn sc zs A c l e fA fc ms wr) (j:Nat) (x:Value) {u:Value} (hj:zs[j]? = some u):GE w0 B0 br bs P nm kb sq rn sc (zs.set j x) A c l e fA fc ms (wr.setCell ⟨B0,j,none⟩ x) :=
 ⟨h.gk.res j x hj,ownsRow_setCell_below h.own (a:=⟨B0,j,none⟩) (by show B0 < bs + 1;have:=h.gk.o2;omega) x⟩
theorem GE.lit (h:GE w0 B0 br bs P nm kb sq rn sc zs A c l e fA fc ms wr) (s:St) :
 (wr.alloc (.cells (stA s) 201)).ownsRow (bs + 1) 201 10 (.slice fA ms.length fc) ms.length (stsV ms) ∧ ∀ j u,(stV s)[j]? = some u → (wr.alloc (.cells (stA s) 201)).cell? ((⟨wr.heap.size,0,none⟩:Addr).add j) = some u:=by
 refine ⟨h.own.alloc _,fun j u hu => ?_⟩
 have:=(boxN_new wr (stA s) 201).cell j u hu
 rw [Addr.add_lit,Nat.zero_add]
 exact this
theorem GE.grown (h:GE w0 B0 br bs P nm kb sq rn sc zs A c l e fA fc ms wr) {s:St} {w8:World} {g cap:Nat} (hown:w8.ownsRow (bs + 1) 201 10 (.slice (some ⟨g,0,none⟩) (ms.length + 1) cap) (ms.length + 1) (stsV ms ++ stV s))
 (hg:(wr.alloc (.cells (stA s) 201)).grownBy w8 (Value.slice fA ms.length fc).ownBlock) :
 w8.cell? ⟨bs,5,none⟩ = some (.slice fA ms.length fc) ∧ w8.frozen? ⟨bs,5,none⟩ = false ∧ w8.cell? ⟨bs,3,none⟩ = some (.int .i64 (rn:Int)) ∧
  GE w0 B0 br bs P nm kb sq rn sc zs A c l e (some ⟨g,0,none⟩) cap (ms ++ [s]) (w8.setCell ⟨bs,5,none⟩ (.slice (some ⟨g,0,none⟩) (ms.length + 1) cap)):=by
 have hz:=h.gk.bx.z
 have h2:=h.gk.o2
 have h3:=h.gk.g0.o3
 have hb:Below (bs + 1) wr w8:=below_app ((Below.refl (bs + 1) wr).alloc (by omega) (.cells (stA s) 201)) (Nat.le_refl _) (h.own.alloc _) hg (by simp;omega)
 have bx:=h.gk.bx.keep hb (Nat.lt_succ_self bs)
 have e1:(ms ++ [s]).length = ms.length + 1:=by simp
 have e2:stsV ms ++ stV s = stsV (ms ++ [s]):=by simp [stsV]
 have hk:GK w0 B0 br bs P [.string nm,.bool kb,.int .u64 (sq:Int),.int .i64 (rn:Int),.int .u32 (sc:Int),.slice fA ms.length fc] zs A c l e w8:=by
  refine ⟨⟨h.gk.g0.rd.keepB hb (by omega) (fun k hk _ => by have:k < B0:=hk.2;omega),h.gk.g0.rb.keep hb (by omega),?_,h3,h.gk.g0.o4,h.gk.g0.nP⟩,bx,h2⟩
  have ho:=h.gk.g0.oth
  exact ⟨hb.os.trans ho.os,hb.tape.trans ho.tape,hb.output.trans ho.output,Nat.le_trans ho.size hb.size,fun k hk hne => (hb.block k (by have:=h.gk.g0.o4;omega)).trans (ho.block k hk hne)⟩
 refine ⟨bx.cell 5 _ rfl,bx.free 5 (by simp),bx.cell 3 _ rfl,?_,?_⟩
 ·rw [e1];exact hk.put 5 _ rfl
 ·rw [e1, ← e2];exact ownsRow_setCell_below hown (a:=⟨bs,5,none⟩) (Nat.lt_succ_self _) _
end
def GER (w0:World) (B0 br bs:Nat) (P:Nat → Prop) (nm:ByteArray) (kb:Bool) (sq rn sc:Nat) (zs:List Value) (Q:List St × List UInt8 × Bool) (nv:Value) (wr:World):Prop :=
 ∃ (m:Nat) (A:Option Addr) (c:Nat) (l:List UInt8) (e:Bool) (fA:Option Addr) (fc:Nat) (ms:List St),nv = .int .i64 (m:Int) ∧ m + ms.length ≤ 8 ∧ Hid (rstats (Int64.ofNat rn) m l e ms = Q) ∧ GE w0 B0 br bs P nm kb sq rn sc zs A c l e fA fc ms wr
def EnEnd (w:World) (b:Nat) (P:Nat → Prop) (r:MEn) (e:Ending) (w':World):Prop :=
 ∃ F fc,e = .returned (.agg (elA r.1 F fc)) ∧ r.1.stats.length ≤ 8 ∧ w'.ownsRow w.heap.size 201 10 (.slice F r.1.stats.length fc) r.1.stats.length (stsV r.1.stats) ∧ (∃ A c,RdrB w' b P A c r.2.1 r.2.2) ∧ Oth b w w'
theorem enEnd_of {w0 wr:World} {B0 br bs c fc sq rn sc:Nat} {P:Nat → Prop} {e kb:Bool} {nm:ByteArray} {zs:List Value} {A fA:Option Addr} {l:List UInt8} {ms:List St} {r:MEn} (h:GE w0 B0 br bs P nm kb sq rn sc zs A c l e fA fc ms wr) (h8:ms.length ≤ 8) (hsq:sq < 18446744073709551616) (hrn:rn ≤ 256) (hsc:sc < 4294967296)
 (hr:r = (⟨nm,kb,UInt64.ofNat sq,Int64.ofNat rn,UInt32.ofNat sc,ms⟩,l,e)):EnEnd w0 br P r (.returned (.agg #[.string nm,.bool kb,.int .u64 (sq:Int),.int .i64 (rn:Int),.int .u32 (sc:Int),.slice fA ms.length fc])) wr:=by
 subst hr
 refine ⟨fA,fc,?_,h8,own_base h.own (by have:=h.gk.o2;have:=h.gk.g0.o4;omega),h.gk.g0.ends,h.gk.g0.oth⟩
 have a1:(UInt64.ofNat sq).toNat = sq:=by rw [UInt64.toNat_ofNat'];omega
 have a2:(UInt32.ofNat sc).toNat = sc:=by rw [UInt32.toNat_ofNat'];omega
 simp only [elA,a1,a2,i64_small (show rn ≤ 4294967296 by omega)]
set_option maxHeartbeats 4000000 in
theorem entREntry (w:World) (br:Nat) (P:Nat → Prop) (A:Option Addr) (c:Nat) (l:List UInt8) (bad:Bool) (h:RdrB w br P A c l bad) :
 Calls Tryz.prog 187 #[.pointer (some ⟨br,0,none⟩)] w (EnEnd w br P (rentry l bad)):=by
 have g0:=gk0_new h #[.string ⟨#[]⟩,.bool false,.int .u64 0,.int .i64 0,.int .u32 0,.slice none 0 0] 97
 go_enter Tryz.func187,Tryz.ntmps187
 go_wp2_with fail
 generalize w.alloc (.cells #[.string ⟨#[]⟩,.bool false,.int .u64 0,.int .i64 0,.int .u32 0,.slice none 0 0] 97) = w0 at *
 obtain ⟨B0,hB0⟩:∃ B,B = w.heap.size:=⟨_,rfl⟩
 rw [← hB0] at g0 ⊢
 clear h hB0
 refine (entText w0 br _ A c l bad g0.rd).mono ?_
 rintro e w1 ⟨rfl,⟨A1,c1,h1⟩,ho⟩
 obtain ⟨nm,l1,b1,hn⟩:∃ x y z,mtext l bad = (x,y,z):=⟨_,_,_,rfl⟩
 rw [hn] at h1 ⊢
 dsimp only at h1 ⊢
 have HA:=hide hn
 have g1:=g0.go h1 ho
 clear hn h1 ho g0
 go_wp2_with fail
 refine (entSmall w1 br _ A1 c1 l1 b1 g1.rd 1 (by decide)).mono ?_
 rintro e w2 ⟨rfl,⟨A2,c2,h1⟩,ho⟩
 obtain ⟨ks,l2,b2,hn⟩:∃ x y z,rsm 1 l1 b1 = (x,y,z):=⟨_,_,_,rfl⟩
 rw [hn] at h1 ⊢
 dsimp only at h1 ⊢
 have HBK:=hide hn
 have g2:=g1.go h1 ho
 obtain ⟨kb,hkb⟩:∃ kb,kb = decide (ks = 1):=⟨_,rfl⟩
 have t9:((ks:Int) == 1) = kb:=by rw [hkb,Bool.eq_iff_iff];simp only [beq_iff_eq,decide_eq_true_eq];omega
 have HKB:=hide hkb
 clear hn h1 ho g1 hkb
 go_wp2_with fail
 refine (entNum w2 br _ A2 c2 l2 b2 g2.rd).mono ?_
 rintro e w3 ⟨rfl,⟨A3,c3,h1⟩,ho⟩
 have hlt:=mnum_lt l2 b2
 obtain ⟨sq,l3,b3,hn⟩:∃ x y z,mnum l2 b2 = (x,y,z):=⟨_,_,_,rfl⟩
 rw [hn] at h1 hlt ⊢
 dsimp only at h1 hlt ⊢
 have HSQ:=hide hlt
 have HCN:=hide hn
 have g3:=g2.go h1 ho
 clear hn h1 ho g2 hlt
 go_wp2_with fail
 refine (entSmall w3 br _ A3 c3 l3 b3 g3.rd 256 (by decide)).mono ?_
 rintro e w4 ⟨rfl,⟨A4,c4,h1⟩,ho⟩
 have hlt:=rsm_le 256 l3 b3
 obtain ⟨rn,l4,b4,hn⟩:∃ x y z,rsm 256 l3 b3 = (x,y,z):=⟨_,_,_,rfl⟩
 rw [hn] at h1 hlt ⊢
 dsimp only at h1 hlt ⊢
 have HRN:=hide hlt
 have HDN:=hide hn
 have g4:=g3.go h1 ho
 clear hn h1 ho g3 hlt
 go_wp2_with fail
 refine (entSmall w4 br _ A4 c4 l4 b4 g4.rd 4294967295 (by decide)).mono ?_
 rintro e w5 ⟨rfl,⟨A5,c5,h1⟩,ho⟩
 have hlt:=rsm_le 4294967295 l4 b4
 obtain ⟨sc,l5,b5,hn⟩:∃ x y z,rsm 4294967295 l4 b4 = (x,y,z):=⟨_,_,_,rfl⟩
 rw [hn] at h1 hlt ⊢
 dsimp only at h1 hlt ⊢
 have HSC:=hide hlt
 have HFN:=hide hn
 have g5:=g4.go h1 ho
 have e16:IntKind.u32.wrap (sc:Int) = (sc:Int):=by rw [IntKind.wrap_u32];omega
 have e17:(sc:Int) % 4294967296 = (sc:Int):=by omega
 have gA:=g5.new #[.string nm,.bool kb,.int .u64 (sq:Int),.int .i64 (rn:Int),.int .u32 (sc:Int),.slice none 0 0] 97
 clear hn h1 ho g4 hlt g5
 go_wp2_with fail
 generalize w5.alloc (.cells #[.string nm,.bool kb,.int .u64 (sq:Int),.int .i64 (rn:Int),.int .u32 (sc:Int),.slice none 0 0] 97) = wA at *
 generalize w5.heap.size = bs at *
 refine (entSmall wA br _ A5 c5 l5 b5 gA.g0.rd 8 (by decide)).mono ?_
 rintro e w6 ⟨rfl,⟨A6,c6,h1⟩,ho⟩
 have hlt:=rsm_le 8 l5 b5
 obtain ⟨N,l6,b6,hn⟩:∃ x y z,rsm 8 l5 b5 = (x,y,z):=⟨_,_,_,rfl⟩
 rw [hn] at h1 hlt ⊢
 dsimp only at h1 hlt ⊢
 have gN:=gA.go h1 ho
 obtain ⟨Q,hQ⟩:∃ Q,rstats (Int64.ofNat rn) N l6 b6 [] = Q:=⟨_,rfl⟩
 have HQ:=hide hQ
 have HR:Hid (rentry l bad = (⟨nm,kb,UInt64.ofNat sq,Int64.ofNat rn,UInt32.ofNat sc,Q.1⟩,Q.2.1,Q.2.2)):=hide (by
  rw [rentry_of HA.out HBK.out HCN.out HDN.out HFN.out hn (hQ.trans (show Q = (Q.1,Q.2.1,Q.2.2) from rfl)),HKB.out])
 have G7:GE w B0 br bs P nm kb sq rn sc [.string ⟨#[]⟩,.bool false,.int .u64 0,.int .i64 0,.int .u32 0,.slice none 0 0] A6 c6 l6 b6 none 0 [] w6:=⟨gN,World.ownsRow_nil _ _ _ _⟩
 clear hn h1 ho gA gN HA HBK HCN HDN HFN HKB e16 e17 t9 hQ
 obtain ⟨ti,hti,hti1,hti2,hti3⟩:=info_parts tySts.inf
 go_wp2_with fail
 go_loopw [4] (GER w B0 br bs P nm kb sq rn sc [.string ⟨#[]⟩,.bool false,.int .u64 0,.int .i64 0,.int .u32 0,.slice none 0 0] Q) (fun iv _ => (intOf iv).toNat)
 case atStart => exact ⟨N,A6,c6,l6,b6,none,0,[],rfl,by simpa using hlt,HQ,G7⟩
 case round =>
  clear G7 hlt
  obtain ⟨m,A',c',l',e',fA,fc,ms,rfl,hm8,hrd,G⟩:=hrel
  have k1:=G.gk.g0.rd.c1
  have s5:=G.gk.bx.cell 5 _ rfl
  have HG:=hide G
  by_cases hx:m = 0 ∨ e' = true
  ·
   have hq:=rstats_end (rows:=Int64.ofNat rn) (l:=l') (acc:=ms) hx
   rw [hrd.out] at hq
   have d0:=G.gk.bx.cell 0 _ rfl
   have d1:=G.gk.bx.cell 1 _ rfl
   have d2:=G.gk.bx.cell 2 _ rfl
   have d3:=G.gk.bx.cell 3 _ rfl
   have d4:=G.gk.bx.cell 4 _ rfl
   have z0:=G.gk.g0.rb.cell 0 _ rfl
   have fz0:=G.gk.g0.rb.free 0 (by simp)
   have z1:=G.gk.g0.rb.cell 1 _ rfl
   have fz1:=G.gk.g0.rb.free 1 (by simp)
   have z2:=G.gk.g0.rb.cell 2 _ rfl
   have fz2:=G.gk.g0.rb.free 2 (by simp)
   have z3:=G.gk.g0.rb.cell 3 _ rfl
   have fz3:=G.gk.g0.rb.free 3 (by simp)
   have z4:=G.gk.g0.rb.cell 4 _ rfl
   have fz4:=G.gk.g0.rb.free 4 (by simp)
   have z5:=G.gk.g0.rb.cell 5 _ rfl
   have fz5:=G.gk.g0.rb.free 5 (by simp)
   have nb1:=G.gk.nb1
   have nb2:=G.gk.nb2
   have HRES:Hid (rentry l bad = (⟨nm,kb,UInt64.ofNat sq,Int64.ofNat rn,UInt32.ofNat sc,ms⟩,l',e')):=hide (by rw [HR.out,hq])
   have H8:Hid (ms.length ≤ 8):=hide (by omega)
   clear hq hrd G
   by_cases hm:m = 0
   ·have t1:¬ 0 < m:=by omega
    have t2:decide ((0:Int) < (m:Int)) = false:=decide_eq_false (by omega)
    clear hx
    go_wp2_with fail
    (try simp only [Exit.inBlock,Exit.then])
    have G9:=((((((HG.out.res 0 (.string nm) rfl).res 1 (.bool kb) rfl).res 2 (.int .u64 (sq:Int)) rfl).res 3 (.int .i64 (rn:Int)) rfl).res 4 (.int .u32 (sc:Int)) rfl).res 5 (.slice fA ms.length fc) rfl)
    refine bodyPost_ret (ret_en (b:=B0) rfl _ _ rfl G9.gk.g0.rb) rfl ?_
    exact enEnd_of G9 H8.out HSQ.out HRN.out (by have:=HSC.out;omega) HRES.out
   ·obtain rfl:e' = true:=by simpa [hm] using hx
    have t2:decide ((0:Int) < (m:Int)) = true:=decide_eq_true (by omega)
    clear hx
    go_wp2_with fail
    (try simp only [Exit.inBlock,Exit.then])
    have G9:=((((((HG.out.res 0 (.string nm) rfl).res 1 (.bool kb) rfl).res 2 (.int .u64 (sq:Int)) rfl).res 3 (.int .i64 (rn:Int)) rfl).res 4 (.int .u32 (sc:Int)) rfl).res 5 (.slice fA ms.length fc) rfl)
    refine bodyPost_ret (ret_en (b:=B0) rfl _ _ rfl G9.gk.g0.rb) rfl ?_
    exact enEnd_of G9 H8.out HSQ.out HRN.out (by have:=HSC.out;omega) HRES.out
  ·
   have hm0:0 < m:=by omega
   obtain rfl:e' = false:=by cases e' <;> simp_all
   have hq:=hrd.out
   rw [show m = (m - 1) + 1 by omega,rstats_on] at hq
   have HQ2:=hide hq
   have t1:decide ((0:Int) < (m:Int)) = true:=decide_eq_true (by omega)
   have HM:=hide hm0
   have f5:=G.gk.bx.free 5 (by simp)
   have s0:=G.gk.bx.cell 3 _ rfl
   have hrn:=HRN.out
   clear hq hrd hx hm0 G
   go_upto_region 5 with fail
   refine wp_region_held_drew (S:=(fun w' => w'.cell? ⟨bs,3,none⟩ = some (.int .i64 (rn:Int)))) (by kernel_rfl) ?_ (fun hHeld => ?_)
   ·exact s0
   refine wpAnyH_take (i:=0) (v:=?_) rfl (by kernel_rfl) (by kernel_rfl) (by kernel_rfl) (fun _ _ _ h => h) (Or.inl ⟨by rfl,?_⟩) hHeld ?_
   rotate_left 1
   ·(intro w hSw;go_simp;first | done | with_reducible rfl)
   (try simp only [Act.put,zA0])
   refine wpAnyH_take (i:=2) (v:=?_) rfl (by kernel_rfl) (by kernel_rfl) (by kernel_rfl) (fun _ _ _ h => h) (Or.inl ⟨by rfl,?_⟩) hHeld ?_
   rotate_left 1
   ·(intro w hSw;go_simp;first | done | with_reducible rfl)
   (try simp only [Act.put])
   refine wpAnyH_take (i:=3) (v:=?_) rfl (by kernel_rfl) (by kernel_rfl) (by kernel_rfl) (fun _ _ _ h => h) (Or.inl ⟨by rfl,?_⟩) hHeld ?_
   rotate_left 1
   ·(intro w hSw;go_simp;first | done | with_reducible rfl)
   (try simp only [Act.put])
   refine wpAnyH_take (i:=4) (v:=?_) rfl (by kernel_rfl) (by kernel_rfl) (by kernel_rfl) (fun _ _ _ h => h) (Or.inl ⟨by rfl,?_⟩) hHeld ?_
   rotate_left 1
   ·(intro w hSw;have q3:w.cell? ⟨bs,3,none⟩ = some (.int .i64 (rn:Int)):=hSw;go_simp;first | done | with_reducible rfl)
   (try simp only [Act.put])
   refine wpAnyH_ready (rs:=[1,5]) (by kernel_rfl) (by simp) ?_
   refine AllReadyH.cons rfl (fun K hK => ?_) (AllReadyH.cons rfl (fun K hK => ?_) (AllReadyH.nil))
   ·go_simp
    refine hK.out _ _ s0 (fun hHeld => ?_)
    clear hK K
    (try simp only [Act.put,zA0,zB0,zC0])
    refine wpAnyH_ready (rs:=[5]) (by kernel_rfl) (by simp) ?_
    refine AllReadyH.cons rfl (fun K hK => ?_) (AllReadyH.nil)
    ·go_simp
     go_at_call 221
     refine (entRStatN wr.drew br _ A' c' l' false HG.out.drew.gk.g0.rd rn (by omega)).mono ?_
     rintro e w6 ⟨rfl,⟨A6,c6,rd6⟩,ho6⟩
     obtain ⟨s6,l6,e6,hT⟩:∃ s l e,rstat (Int64.ofNat rn) l' false = (s,l,e):=⟨_,_,_,rfl⟩
     rw [hT] at rd6 ⊢
     dsimp only [stA] at rd6 ⊢
     have HT:=hide hT
     have HG6:=hide (HG.out.drew.go rd6 ho6)
     have s1:=HG6.out.gk.bx.cell 5 _ rfl
     have s3:=HG6.out.gk.bx.cell 3 _ rfl
     have HL:=hide (HG6.out.lit s6)
     have hz6:bs + 1 ≤ w6.heap.size:=HG6.out.gk.bx.z
     have hbL:=(Below.refl w6.heap.size w6).alloc (Nat.le_refl _) (.cells (stA s6) 201)
     have s2:=(HG6.out.gk.bx.keep hbL HG6.out.gk.bx.z).cell 5 _ rfl
     have s4:=(HG6.out.gk.bx.keep hbL HG6.out.gk.bx.z).cell 3 _ rfl
     dsimp only [stA] at s2 s4 HL
     clear hT hbL rd6 ho6
     (try dsimp only)
     refine hK.out _ _ s3 (fun hHeld => ?_)
     clear hK K
     (try simp only [Act.put,zA0,zB0,zC0])
     refine wpAnyH_ready (rs:=[6]) (by kernel_rfl) (by simp) ?_
     refine AllReadyH.cons rfl (fun K hK => ?_) (AllReadyH.nil)
     ·go_simp
      refine hK.out _ _ s4 (fun hHeld => ?_)
      clear hK K
      (try simp only [Act.put,zA0,zB0,zC0])
      refine wpAnyH_ready (rs:=[7]) (by kernel_rfl) (by simp) ?_
      refine AllReadyH.cons rfl (fun K hK => ?_) (AllReadyH.nil)
      ·refine step_append_lies _ rfl (.tmp 32) (.tmp 37) 95 rfl (bs + 1) 201 ti _ 10 88 Tryz.underlying95 hti hti1 hti2 hti3 tySts.zs (by decide) _ ms.length (stsV ms) (by simp [Act.eval]) HL.out.1 _ 1 1 (stV s6) (by simp [Act.eval]) rfl HL.out.2 (stV_one s6) (by omega) (by unfold maxLen <;> omega) (by omega) (by simp <;> omega) _ rfl ?_
       intro g cap w8 hown8 hg8 _ _
       obtain ⟨d1,d2,d3,hG8⟩:=HG6.out.grown (s:=s6) hown8 hg8
       have HG8:=hide hG8
       clear hown8 hg8 hG8
       refine hK.out _ _ d3 (fun hHeld => ?_)
       clear hK K
       (try simp only [Act.put,zA0])
       refine wpAnyH_take (i:=8) (v:=?_) rfl (by kernel_rfl) (by kernel_rfl) (by kernel_rfl) (fun _ _ _ h => h) (Or.inl ⟨by rfl,?_⟩) hHeld ?_
       rotate_left 1
       ·(intro w hSw;go_simp;first | done | with_reducible rfl)
       (try simp only [Act.put])
       refine wpAnyH_ready (rs:=[9]) (by kernel_rfl) (by simp) ?_
       refine AllReadyH.cons rfl (fun K hK => ?_) (AllReadyH.nil)
       ·go_simp
        refine hK.out _ _ (HG8.out.gk.bx.cell 3 _ rfl) (fun hHeld => ?_)
        clear hK K
        (try simp only [Act.put,zA0,zB0,zC0])
        refine wpAnyH_done (by kernel_rfl) ?_ _
        have HQ4:Hid (rstats (Int64.ofNat rn) (m - 1) l6 e6 (ms ++ [s6]) = Q):=hide (by have q:=HQ2.out;rw [HT.out] at q;exact q)
        clear k1 s0 s5 f5 HQ2 HT HG HG6 HL
        clear d1 d2 d3 s1 s2 s3 s4
        go_wp2_with fail
        go_roundw
        case rel => exact ⟨m - 1,A6,c6,l6,e6,_,cap,ms ++ [s6],by have:=HM.out;congr 1;omega,by have:=HM.out;rw [List.length_append,List.length_singleton];omega,HQ4,HG8.out⟩
        case measure => have:=HM.out;simp [intOf];omega
   ·go_simp
    go_at_call 221
    refine (entRStatN wr.drew br _ A' c' l' false HG.out.drew.gk.g0.rd rn (by omega)).mono ?_
    rintro e w6 ⟨rfl,⟨A6,c6,rd6⟩,ho6⟩
    obtain ⟨s6,l6,e6,hT⟩:∃ s l e,rstat (Int64.ofNat rn) l' false = (s,l,e):=⟨_,_,_,rfl⟩
    rw [hT] at rd6 ⊢
    dsimp only [stA] at rd6 ⊢
    have HT:=hide hT
    have HG6:=hide (HG.out.drew.go rd6 ho6)
    have s1:=HG6.out.gk.bx.cell 5 _ rfl
    have s3:=HG6.out.gk.bx.cell 3 _ rfl
    have HL:=hide (HG6.out.lit s6)
    have hz6:bs + 1 ≤ w6.heap.size:=HG6.out.gk.bx.z
    have hbL:=(Below.refl w6.heap.size w6).alloc (Nat.le_refl _) (.cells (stA s6) 201)
    have s2:=(HG6.out.gk.bx.keep hbL HG6.out.gk.bx.z).cell 5 _ rfl
    have s4:=(HG6.out.gk.bx.keep hbL HG6.out.gk.bx.z).cell 3 _ rfl
    dsimp only [stA] at s2 s4 HL
    clear hT hbL rd6 ho6
    (try dsimp only)
    refine hK.out _ _ s3 (fun hHeld => ?_)
    clear hK K
    (try simp only [Act.put,zA0,zB0,zC0])
    refine wpAnyH_ready (rs:=[1,6]) (by kernel_rfl) (by simp) ?_
    refine AllReadyH.cons rfl (fun K hK => ?_) (AllReadyH.cons rfl (fun K hK => ?_) (AllReadyH.nil))
    ·go_simp
     refine hK.out _ _ s3 (fun hHeld => ?_)
     clear hK K
     (try simp only [Act.put,zA0,zB0,zC0])
     refine wpAnyH_ready (rs:=[6]) (by kernel_rfl) (by simp) ?_
     refine AllReadyH.cons rfl (fun K hK => ?_) (AllReadyH.nil)
     ·go_simp
      refine hK.out _ _ s4 (fun hHeld => ?_)
      clear hK K
      (try simp only [Act.put,zA0,zB0,zC0])
      refine wpAnyH_ready (rs:=[7]) (by kernel_rfl) (by simp) ?_
      refine AllReadyH.cons rfl (fun K hK => ?_) (AllReadyH.nil)
      ·refine step_append_lies _ rfl (.tmp 32) (.tmp 37) 95 rfl (bs + 1) 201 ti _ 10 88 Tryz.underlying95 hti hti1 hti2 hti3 tySts.zs (by decide) _ ms.length (stsV ms) (by simp [Act.eval]) HL.out.1 _ 1 1 (stV s6) (by simp [Act.eval]) rfl HL.out.2 (stV_one s6) (by omega) (by unfold maxLen <;> omega) (by omega) (by simp <;> omega) _ rfl ?_
       intro g cap w8 hown8 hg8 _ _
       obtain ⟨d1,d2,d3,hG8⟩:=HG6.out.grown (s:=s6) hown8 hg8
       have HG8:=hide hG8
       clear hown8 hg8 hG8
       refine hK.out _ _ d3 (fun hHeld => ?_)
       clear hK K
       (try simp only [Act.put,zA0])
       refine wpAnyH_take (i:=8) (v:=?_) rfl (by kernel_rfl) (by kernel_rfl) (by kernel_rfl) (fun _ _ _ h => h) (Or.inl ⟨by rfl,?_⟩) hHeld ?_
       rotate_left 1
       ·(intro w hSw;go_simp;first | done | with_reducible rfl)
       (try simp only [Act.put])
       refine wpAnyH_ready (rs:=[9]) (by kernel_rfl) (by simp) ?_
       refine AllReadyH.cons rfl (fun K hK => ?_) (AllReadyH.nil)
       ·go_simp
        refine hK.out _ _ (HG8.out.gk.bx.cell 3 _ rfl) (fun hHeld => ?_)
        clear hK K
        (try simp only [Act.put,zA0,zB0,zC0])
        refine wpAnyH_done (by kernel_rfl) ?_ _
        have HQ4:Hid (rstats (Int64.ofNat rn) (m - 1) l6 e6 (ms ++ [s6]) = Q):=hide (by have q:=HQ2.out;rw [HT.out] at q;exact q)
        clear k1 s0 s5 f5 HQ2 HT HG HG6 HL
        clear d1 d2 d3 s1 s2 s3 s4
        go_wp2_with fail
        go_roundw
        case rel => exact ⟨m - 1,A6,c6,l6,e6,_,cap,ms ++ [s6],by have:=HM.out;congr 1;omega,by have:=HM.out;rw [List.length_append,List.length_singleton];omega,HQ4,HG8.out⟩
        case measure => have:=HM.out;simp [intOf];omega
    ·go_simp
     refine hK.out _ _ s4 (fun hHeld => ?_)
     clear hK K
     (try simp only [Act.put,zA0,zB0,zC0])
     refine wpAnyH_ready (rs:=[1]) (by kernel_rfl) (by simp) ?_
     refine AllReadyH.cons rfl (fun K hK => ?_) (AllReadyH.nil)
     ·go_simp
      refine hK.out _ _ s4 (fun hHeld => ?_)
      clear hK K
      (try simp only [Act.put,zA0,zB0,zC0])
      refine wpAnyH_ready (rs:=[7]) (by kernel_rfl) (by simp) ?_
      refine AllReadyH.cons rfl (fun K hK => ?_) (AllReadyH.nil)
      ·refine step_append_lies _ rfl (.tmp 32) (.tmp 37) 95 rfl (bs + 1) 201 ti _ 10 88 Tryz.underlying95 hti hti1 hti2 hti3 tySts.zs (by decide) _ ms.length (stsV ms) (by simp [Act.eval]) HL.out.1 _ 1 1 (stV s6) (by simp [Act.eval]) rfl HL.out.2 (stV_one s6) (by omega) (by unfold maxLen <;> omega) (by omega) (by simp <;> omega) _ rfl ?_
       intro g cap w8 hown8 hg8 _ _
       obtain ⟨d1,d2,d3,hG8⟩:=HG6.out.grown (s:=s6) hown8 hg8
       have HG8:=hide hG8
       clear hown8 hg8 hG8
       refine hK.out _ _ d3 (fun hHeld => ?_)
       clear hK K
       (try simp only [Act.put,zA0])
       refine wpAnyH_take (i:=8) (v:=?_) rfl (by kernel_rfl) (by kernel_rfl) (by kernel_rfl) (fun _ _ _ h => h) (Or.inl ⟨by rfl,?_⟩) hHeld ?_
       rotate_left 1
       ·(intro w hSw;go_simp;first | done | with_reducible rfl)
       (try simp only [Act.put])
       refine wpAnyH_ready (rs:=[9]) (by kernel_rfl) (by simp) ?_
       refine AllReadyH.cons rfl (fun K hK => ?_) (AllReadyH.nil)
       ·go_simp
        refine hK.out _ _ (HG8.out.gk.bx.cell 3 _ rfl) (fun hHeld => ?_)
        clear hK K
        (try simp only [Act.put,zA0,zB0,zC0])
        refine wpAnyH_done (by kernel_rfl) ?_ _
        have HQ4:Hid (rstats (Int64.ofNat rn) (m - 1) l6 e6 (ms ++ [s6]) = Q):=hide (by have q:=HQ2.out;rw [HT.out] at q;exact q)
        clear k1 s0 s5 f5 HQ2 HT HG HG6 HL
        clear d1 d2 d3 s1 s2 s3 s4
        go_wp2_with fail
        go_roundw
        case rel => exact ⟨m - 1,A6,c6,l6,e6,_,cap,ms ++ [s6],by have:=HM.out;congr 1;omega,by have:=HM.out;rw [List.length_append,List.length_singleton];omega,HQ4,HG8.out⟩
        case measure => have:=HM.out;simp [intOf];omega
end
end Go.Proofs.YtpfofefecamkfaaGreatDoor
