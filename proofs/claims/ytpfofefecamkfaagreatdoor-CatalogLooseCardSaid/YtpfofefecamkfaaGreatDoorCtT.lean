/- AN OP of the law's in a world; THE WALK of great. No statement of the seat is proved here; no condition but sizes. -/
import Derived.Test.YtpfofefecamkfaaGreatDoorCtQ
import Derived.Test.YtpfofefecamkfaaGreatDoorH0
namespace Go.Proofs.YtpfofefecamkfaaGreatDoor
open Go.RowKit

/-- an op of the law's, with where its rows lie -/
structure Op15 where
 kind:UInt8
 who:Bool
 d:Dr
 nm:ByteArray
 shape:UInt8
 ids:List UInt64
 bs:List UInt8
 n:Int
 keep:List Int
 al:List El
 fA:Option Addr
 fc:Nat
 aA:Option Addr
 ac:Nat
 dA:Option Addr
 dc:Nat
 iA:Option Addr
 ic:Nat
 bA:Option Addr
 bc:Nat
 kA:Option Addr
 kc:Nat
/-- its rows -/
structure OpQ (w:World) (P:Nat → Prop) (o:Op15):Prop where
 f:RdQ w P 4 o.fA o.d.fs.length o.fc (fdsV o.d.fs)
 a:EnQ w P o.aA o.ac o.al
 e:o.al.map El.p = o.d.adds
 dr:RdQ w P 1 o.dA o.d.drops.length o.dc (strsV o.d.drops)
 i:RdQ w P 1 o.iA o.ids.length o.ic (u64sV o.ids)
 b:RdQ w P 1 o.bA o.bs.length o.bc (bytesV o.bs)
 k:RdQ w P 1 o.kA o.keep.length o.kc (o.keep.map (.int .i64))
 n0 : -9223372036854775808 ≤ o.n
 n1:o.n ≤ 9223372036854775807
 nm:o.nm.size ≤ 9223372036854775807
/-- not too great -/
structure Op15.sm (o:Op15):Prop where
 f:o.d.fs.length ≤ 20
 fs:Small o.d.fs
 a:o.al.length ≤ 70
 as_:SmE o.al
 d:o.d.drops.length ≤ 50
 i:o.ids.length ≤ 50
 b:o.bs.length ≤ 2000
 nm:o.nm.size ≤ 500
 t1:o.bs.take 3 ≠ [84,70,49]
 t2:o.bs.take 3 ≠ [77,70,49]
 ds:∀ x ∈ o.d.drops,x.size ≤ 500
/-- what great tells -/
def GrtEnd (w:World) (o:Op15) (e:Ending) (w':World):Prop := ∃ g,e = .returned (.bool g) ∧ (g = false → o.sm) ∧ Below w.heap.size w w'
def BsOk (b:Bool) (l:List UInt8):Prop:=b = false → l ≠ [84,70,49] ∧ l ≠ [77,70,49]
theorem strB_eq (l:List UInt8) (b:List UInt8):((⟨l.toArray⟩:ByteArray).toList == b) = decide (l = b):=by
 rw [ByteArray.toList_eq]
 show (l == b) = _
 rw [Bool.eq_iff_iff,beq_iff_eq,decide_eq_true_iff]
set_option maxRecDepth 100000 in
set_option maxHeartbeats 4000000 in
theorem great15 (w:World) (P:Nat → Prop) (o:Op15) (h:OpQ w P o):Calls Tryz.prog 16 #[.agg #[.int .u8 (o.kind.toNat:Int),.bool o.who,.bool o.d.rew,.slice o.fA o.d.fs.length o.fc,.slice o.aA o.al.length o.ac,.slice o.dA o.d.drops.length o.dc,.int .u64 (o.d.off.toNat:Int),.int .u64 (o.d.tim.toNat:Int),.string o.nm,.int .u8 (o.shape.toNat:Int),.slice o.iA o.ids.length o.ic,.slice o.bA o.bs.length o.bc,.int .i64 o.n,.slice o.kA o.keep.length o.kc]] w (GrtEnd w o):=by
 have hb1:=(Below.refl w.heap.size w).alloc (Nat.le_refl _) (.cells #[.int .u8 (o.kind.toNat:Int),.bool o.who,.bool o.d.rew,.slice o.fA o.d.fs.length o.fc,.slice o.aA o.al.length o.ac,.slice o.dA o.d.drops.length o.dc,.int .u64 (o.d.off.toNat:Int),.int .u64 (o.d.tim.toNat:Int),.string o.nm,.int .u8 (o.shape.toNat:Int),.slice o.iA o.ids.length o.ic,.slice o.bA o.bs.length o.bc,.int .i64 o.n,.slice o.kA o.keep.length o.kc] 58)
 have y:=boxN_new w #[.int .u8 (o.kind.toNat:Int),.bool o.who,.bool o.d.rew,.slice o.fA o.d.fs.length o.fc,.slice o.aA o.al.length o.ac,.slice o.dA o.d.drops.length o.dc,.int .u64 (o.d.off.toNat:Int),.int .u64 (o.d.tim.toNat:Int),.string o.nm,.int .u8 (o.shape.toNat:Int),.slice o.iA o.ids.length o.ic,.slice o.bA o.bs.length o.bc,.int .i64 o.n,.slice o.kA o.keep.length o.kc] 58
 have rf:=(h.f.low hb1)
 have rdr:=(h.dr.low hb1)
 have rb:=(h.b.low hb1)
 have ra:=h.a.low hb1
 have mf:o.d.fs.length ≤ 9223372036854775807:=by have h1:=h.f.rd.le;have h2:=h.f.rd.cap;unfold maxLen at h2;omega
 have ma:o.al.length ≤ 9223372036854775807:=by have h1:=h.a.row.rd.le;have h2:=h.a.row.rd.cap;unfold maxLen at h2;omega
 have md:o.d.drops.length ≤ 9223372036854775807:=by have h1:=h.dr.rd.le;have h2:=h.dr.rd.cap;unfold maxLen at h2;omega
 have mi:o.ids.length ≤ 9223372036854775807:=by have h1:=h.i.rd.le;have h2:=h.i.rd.cap;unfold maxLen at h2;omega
 have mb:o.bs.length ≤ 9223372036854775807:=by have h1:=h.b.rd.le;have h2:=h.b.rd.cap;unfold maxLen at h2;omega
 have mn:=h.nm
 clear h
 go_enter Tryz.func16,Tryz.ntmps16
 go_upto_region 1 with fail
 generalize w.alloc (.cells #[.int .u8 (o.kind.toNat:Int),.bool o.who,.bool o.d.rew,.slice o.fA o.d.fs.length o.fc,.slice o.aA o.al.length o.ac,.slice o.dA o.d.drops.length o.dc,.int .u64 (o.d.off.toNat:Int),.int .u64 (o.d.tim.toNat:Int),.string o.nm,.int .u8 (o.shape.toNat:Int),.slice o.iA o.ids.length o.ic,.slice o.bA o.bs.length o.bc,.int .i64 o.n,.slice o.kA o.keep.length o.kc] 58) = w1 at *
 obtain ⟨bx,hbx⟩:∃ b,b = w.heap.size:=⟨_,rfl⟩
 rw [← hbx] at y ⊢
 have HBX:=hide hbx
 clear hbx
 have c3:=y.cell 3 _ rfl
 have c4:=y.cell 4 _ rfl
 have c5:=y.cell 5 _ rfl
 have c8:=y.cell 8 _ rfl
 have c10:=y.cell 10 _ rfl
 have c11:=y.cell 11 _ rfl
 have HB:=hide hb1
 have HRA:=hide ra
 have HRF:=hide rf
 have HRD:=hide rdr
 have HRB:=hide rb
 have HY:=hide y
 clear hb1 ra rf rdr rb y
 by_cases h1:20 < o.d.fs.length
 ·have t1:decide ((20:Int) < (o.d.fs.length:Int)) = true:=decide_eq_true (by omega)
  go_wp2_with fail
  go_ret
  exact ⟨true,rfl,fun q => (by cases q),HB.out⟩
 have t1:decide ((20:Int) < (o.d.fs.length:Int)) = false:=decide_eq_false (by omega)
 have hg:=refGreat w1 0 o.d.fs.length o.fc o.fA o.d.fs HRF.out.rd
 have hga:=fun W (hW:Below w1.heap.size w1 W) => refGreat13 W o.aA o.ac o.al (HRA.out.low hW).en
 have HGA:=hide hga
 clear hga
 go_wp2_with fail
 refine hg.mono ?_
 rintro e w2 ⟨g2,rfl,hsm2,hb2⟩
 clear hg
 have HS2:=hide hsm2
 clear hsm2
 have y2:=HY.out.keep hb2 HY.out.z
 have HB2:=hide hb2
 have HB':=hide (below_call HB.out HB.out.size hb2)
 clear HB
 have HB:=HB'
 clear HB' hb2 c3 c4 c5 c8 c10 c11
 have c3:=y2.cell 3 _ rfl
 have c4:=y2.cell 4 _ rfl
 have c5:=y2.cell 5 _ rfl
 have c8:=y2.cell 8 _ rfl
 have c10:=y2.cell 10 _ rfl
 have c11:=y2.cell 11 _ rfl
 have HY2:=hide y2
 clear y2
 cases g2 with
 | true =>
   go_wp2_with fail
   go_ret
   exact ⟨true,rfl,fun q => (by cases q),HB.out⟩
 | false =>
   by_cases h3:70 < o.al.length
   ·have t3:decide ((70:Int) < (o.al.length:Int)) = true:=decide_eq_true (by omega)
    go_wp2_with fail
    go_ret
    exact ⟨true,rfl,fun q => (by cases q),HB.out⟩
   have t3:decide ((70:Int) < (o.al.length:Int)) = false:=decide_eq_false (by omega)
   have hg:=HGA.out w2 HB2.out
   go_wp2_with fail
   refine hg.mono ?_
   rintro e w3 ⟨g4,rfl,hsm4,hb3⟩
   clear hg
   have HS4:=hide hsm4
   clear hsm4
   have y3:=HY2.out.keep hb3 HY2.out.z
   have HB3:=hide (below_call HB2.out HB2.out.size hb3)
   have HB':=hide (below_call HB.out (Nat.le_trans HB.out.size (Nat.le_refl _)) hb3)
   clear HB
   have HB:=HB'
   clear HB' hb3 c3 c4 c5 c8 c10 c11
   have c3:=y3.cell 3 _ rfl
   have c4:=y3.cell 4 _ rfl
   have c5:=y3.cell 5 _ rfl
   have c8:=y3.cell 8 _ rfl
   have c10:=y3.cell 10 _ rfl
   have c11:=y3.cell 11 _ rfl
   have HY3:=hide y3
   clear y3
   cases g4 with
   | true =>
     go_wp2_with fail
     go_ret
     exact ⟨true,rfl,fun q => (by cases q),HB.out⟩
   | false =>
     by_cases h5:50 < o.d.drops.length
     ·have t5:decide ((50:Int) < (o.d.drops.length:Int)) = true:=decide_eq_true (by omega)
      go_wp2_with fail
      go_ret
      exact ⟨true,rfl,fun q => (by cases q),HB.out⟩
     have t5:decide ((50:Int) < (o.d.drops.length:Int)) = false:=decide_eq_false (by omega)
     by_cases h6:50 < o.ids.length
     ·have t6:decide ((50:Int) < (o.ids.length:Int)) = true:=decide_eq_true (by omega)
      go_wp2_with fail
      go_ret
      exact ⟨true,rfl,fun q => (by cases q),HB.out⟩
     have t6:decide ((50:Int) < (o.ids.length:Int)) = false:=decide_eq_false (by omega)
     by_cases h7:2000 < o.bs.length
     ·have t7:decide ((2000:Int) < (o.bs.length:Int)) = true:=decide_eq_true (by omega)
      go_wp2_with fail
      go_ret
      exact ⟨true,rfl,fun q => (by cases q),HB.out⟩
     have t7:decide ((2000:Int) < (o.bs.length:Int)) = false:=decide_eq_false (by omega)
     by_cases h8:500 < o.nm.size
     ·have t8:decide ((500:Int) < (o.nm.size:Int)) = true:=decide_eq_true (by omega)
      go_wp2_with fail
      go_ret
      exact ⟨true,rfl,fun q => (by cases q),HB.out⟩
     have t8:decide ((500:Int) < (o.nm.size:Int)) = false:=decide_eq_false (by omega)
     have HN:=hide (And.intro h1 (And.intro h3 (And.intro h5 (And.intro h6 (And.intro h7 h8)))))
     have rb:=(HRB.out.rd.below HB3.out).more HB3.out.size
     have rd:=HRD.out.rd.below HB3.out
     have HRD3:=hide rd
     clear h1 h3 h6 h8 rd mf ma mi mn
     go_upto_region 3 with fail
     go_cut [71] from 54 to 71 (fun v wx => ∃ b:Bool,v = .bool b ∧ Hid (BsOk b (o.bs.take 3)) ∧ w3 = wx)
     case first =>
      by_cases h3:o.bs.length < 3
      ·have t9:decide ((3:Int) ≤ (o.bs.length:Int)) = false:=decide_eq_false (by omega)
       have hx:Hid (BsOk false (o.bs.take 3)):=hide (fun _ => ⟨fun q => by have:=congrArg List.length q;simp at this;omega,fun q => by have:=congrArg List.length q;simp at this;omega⟩)
       clear h3 h7 rb mb
       go_wp2_with fail
       go_meet
       exact ⟨_,rfl,hx,rfl⟩
      have t9:decide ((3:Int) ≤ (o.bs.length:Int)) = true:=decide_eq_true (by omega)
      have hcap:=rb.le
      have u1:=fun k W => run_cut_hi (P:=Tryz.prog) tyBytes o.bA o.bs.length o.bc k (3:Int) 3 rfl (by omega) W
      have u2:=fun k W => cut_hi (P:=Tryz.prog) tyBytes o.bA o.bs.length o.bc k (3:Int) 3 rfl (by omega) W
      have hpre:Rd w3 w3.heap.size 1 o.bA 3 o.bc (bytesV (o.bs.take 3)):=by
       have:=rb.pre (hi:=3) (by omega)
       simpa [bytesV,List.map_take] using this
      have hstr:=run_str (P:=Tryz.prog) w3 Tryz.underlying55 Tryz.underlying5 Tryz.underlying9 hpre
      have q1:=strB_eq (o.bs.take 3) [84,70,49]
      have q2:=strB_eq (o.bs.take 3) [77,70,49]
      clear hpre h3 h7 rb mb hcap
      generalize o.bs.take 3 = pre at *
      clear q1 q2
      by_cases e1:pre = [84,70,49]
      ·have hx:Hid (BsOk true pre):=hide (fun q => by cases q)
       go_wp2_with fail
       go_meet
       exact ⟨_,rfl,hx,rfl⟩
      by_cases e2:pre = [77,70,49]
      ·have hx:Hid (BsOk true pre):=hide (fun q => by cases q)
       go_wp2_with fail
       go_meet
       exact ⟨_,rfl,hx,rfl⟩
      have hx:Hid (BsOk (pre == [84,70,49] || pre == [77,70,49]) pre):=hide (fun _ => ⟨e1,e2⟩)
      go_wp2_with fail
      go_meet
      exact ⟨_,rfl,hx,rfl⟩
     case rest =>
      obtain ⟨b,rfl,hbs,rfl⟩:=hcut
      cases b with
      | true =>
        clear h7 rb mb
        go_wp2_with fail
        go_ret
        exact ⟨true,rfl,fun q => (by cases q),HB.out⟩
      | false =>
        clear h7 rb mb
        go_wp2_with fail
        go_loop [3] (fun iv => ∃ k:Nat,iv = .int .i64 (k:Int) ∧ k ≤ o.d.drops.length ∧ Hid (∀ j,j < k → (o.d.drops.getD j default).size ≤ 500)) (fun iv => o.d.drops.length - (intOf iv).toNat)
        case atStart => exact ⟨0,rfl,Nat.zero_le _,hide (fun j hj => by omega)⟩
        case round =>
         obtain ⟨k,rfl,hk,hall⟩:=hrel
         by_cases hlt:k < o.d.drops.length
         ·obtain ⟨b,off,hA,_,hs⟩:=HRD3.out.st hlt
          have c5':=c5
          rw [hA] at c5'
          clear c5
          have c5:=c5'
          clear c5'
          have HA:=hide hA
          clear hA
          generalize hx:o.d.drops.getD k default = x at *
          have HX:=hide hx
          clear hx
          by_cases h9:500 < x.size
          ·have t9:decide ((500:Int) < (x.size:Int)) = true:=decide_eq_true (by omega)
           clear h9
           go_wp2_with fail
           go_ret
           exact ⟨true,rfl,fun q => (by cases q),HB.out⟩
          ·have t9:decide ((500:Int) < (x.size:Int)) = false:=decide_eq_false (by omega)
           go_wp2_with fail
           go_round
           case rel =>
            refine ⟨k + 1,by go_num,hlt,hide (fun j hj => ?_)⟩
            by_cases e:j = k
            ·rw [e,HX.out];omega
            ·exact hall.out j (by omega)
           case measure => simp [intOf];omega
         ·go_wp2_with fail
          go_ret
          refine ⟨false,rfl,fun _ => ⟨by have:=HN.out.1;omega,HS2.out trivial,by have:=HN.out.2.1;omega,HS4.out trivial,by have:=HN.out.2.2.1;omega,by have:=HN.out.2.2.2.1;omega,by have:=HN.out.2.2.2.2.1;omega,by have:=HN.out.2.2.2.2.2;omega,(hbs.out rfl).1,(hbs.out rfl).2,fun x hx => ?_⟩,HB.out⟩
          obtain ⟨j,hj,rfl⟩:=List.mem_iff_getElem.1 hx
          have h2:=hall.out j (by omega)
          rw [List.getD_eq_getElem?_getD,List.getElem?_eq_getElem hj] at h2
          exact h2
end Go.Proofs.YtpfofefecamkfaaGreatDoor
