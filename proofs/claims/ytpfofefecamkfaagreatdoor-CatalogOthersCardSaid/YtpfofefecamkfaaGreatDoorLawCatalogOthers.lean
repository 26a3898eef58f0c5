/- CatalogOthers: for every input the law returns true, and what was there is as it was; the table as the program's text lays it: the card. -/
import Derived.Test.YtpfofefecamkfaaGreatDoorCards
import Derived.Test.YtpfofefecamkfaaGreatDoorTie
import Derived.WalkKit
import Derived.ProofKit
import Derived.OpenShut
import Derived.Deep.DeepHandedRow
import Derived.Test.YtpfofefecamkfaaGreatDoorCtFr
import Derived.Test.YtpfofefecamkfaaGreatDoorJ3CatalogOthers
import Derived.Deep.DeepWitnessRowRef
import Derived.Test.YtpfofefecamkfaaGreatDoorCtOt
namespace Go.Proofs.YtpfofefecamkfaaGreatDoor.catalogOthers
set_option maxRecDepth 100000
open Go.Proofs.YtpfofefecamkfaaGreatDoor
open Go.ChangeShapes Go.WideShapes Go.ChangeAt Go.RowKit
open Go.ChangeMaps (open_string shut_string)

theorem own:ownKnob Tryz.prog.godebug = none:=by kernel_rfl
theorem laidOut:laidOutB Tryz.prog = true:=by kernel_rfl
theorem tabs {W:World} (h:laidMetH Tryz.prog Rows.catalogOthersRow.laid W):Tabs W:=tabs_of h

set_option maxHeartbeats 8000000 in
theorem walk (w:World) (ht:Tabs w) (A:Option Addr) (c:Nat) (l:List Bool) (hr:Rd w w.heap.size 1 A l.length c (l.map .bool)) :
 Calls Tryz.prog 3 #[.slice A l.length c] w fun e w' => e = .returned (.bool true) ∧ Below w.heap.size w w':=by
 have hmax:l.length ≤ 9223372036854775807:=by have h1:=hr.le;have h2:=hr.cap;unfold maxLen at h2;omega
 have hal:=alive15 w ht
 have HR:=hide hr
 have HT:=hide ht
 clear hr ht
 obtain ⟨s0,c0,hp1,hp2,hI0,hK0⟩:=others_plan
 have HP:=hide (And.intro hp1 (And.intro hp2 (And.intro hI0 hK0)))
 clear hp1 hp2 hI0 hK0
 go_enter Tryz.func3,Tryz.ntmps3
 go_wp2_with fail
 refine hal.mono ?_
 rintro e w0 ⟨rfl,hb0⟩
 clear hal
 have hn:=newStore w0 (HT.out.low hb0) 4000000 (by decide) (by decide)
 have HB0:=hide hb0
 clear hb0
 go_wp2_with fail
 refine hn.mono ?_
 rintro e w1 ⟨sb,mb,rfl,l1,l2,hE1,hb1⟩
 clear hn
 have htw:=lawTwo2 w1
 have HE1:=hide hE1
 have HB1:=hide (below_two HB0.out hb1)
 have hz0:=HB0.out.size
 clear hE1 hb1
 go_wp2_with fail
 refine htw.mono ?_
 rintro e w2 ⟨A2,k2,rfl,hr2,hb2⟩
 clear htw
 have hop:=catOpen (Ms sb mb) w2 sb mb 0 (So.new 4000000) (HE1.out.low hb2) (by omega) 1 two A2 k2 (hr2.imp fun j hj _ q => by have:=HE1.out.lt j q;omega)
 have HB2:=hide (below_two HB1.out hb2)
 have hz12:=hb2.size
 clear hr2 hb2
 go_wp2_with fail
 refine hop.mono ?_
 rintro e w3 hopn
 clear hop
 obtain ⟨ba,rfl,l3,l3',hE3,hC3,hm3⟩:=opn_at hopn HP.out.1
 clear hopn
 have g1:=HE1.out.lt sb (.inl rfl)
 have g2:=HE1.out.lt mb (.inr rfl)
 have N1:Hid (ba ≠ sb ∧ ba ≠ mb):=hide (by omega)
 have hz2:w.heap.size ≤ w2.heap.size:=HB2.out.size
 have hls:w.heap.size ≤ sb ∧ w.heap.size ≤ mb:=by omega
 have HM3:=hide ((Mst.of (M:=fun k => w.heap.size ≤ k) HB2.out).trans (hm3.imp fun k _ q => by rcases q with rfl | rfl;exact hls.1;exact hls.2))
 have HE3:=hide hE3
 have HC3:=hide hC3
 have htw:=lawTwo2 w3
 clear hE3 hC3 hm3
 go_wp2_with fail
 refine htw.mono ?_
 rintro e w4 ⟨A4,k4,rfl,hr4,hb4⟩
 clear htw
 have hop:=catOpen (Ma (Ms sb mb) ba) w4 sb mb 2 s0 (HE3.out.low hb4) (by omega) 1 two A4 k4 (hr4.imp fun j hj _ q => by have:=HE3.out.lt j q;omega)
 have HC4:=hide (HC3.out.low hb4)
 have HM4:=hide (HM3.out.trans (Mst.of hb4))
 have z34:w3.heap.size ≤ w4.heap.size:=hb4.size
 clear hr4 hb4
 go_wp2_with fail
 refine hop.mono ?_
 rintro e w5 hopn
 clear hop
 obtain ⟨bb,rfl,l5,l5',hE5,hC5,hm5⟩:=opn_at hopn HP.out.2.1
 clear hopn
 have N2:Hid (bb ≠ sb ∧ bb ≠ mb ∧ ba ≠ bb):=hide (by omega)
 have hCa:=(HC4.out.imp (Q:=fun k => ¬ Ma (Ma (Ms sb mb) ba) bb k) fun k hk hl q => q.elim hk fun e => by omega).mst hm5 (fun k hk q => hk (.inl (.inl q))) (fun q => q.elim N1.out.1 N1.out.2)
 have HM5:=hide (HM4.out.trans (hm5.imp (N:=fun k => w.heap.size ≤ k) fun k _ q => by rcases q with rfl | rfl;exact hls.1;exact hls.2))
 have HMM:Hid (Ma (Ma (Ms sb mb) ba) bb sb ∧ Ma (Ma (Ms sb mb) ba) bb mb ∧ Ma (Ma (Ms sb mb) ba) bb ba ∧ Ma (Ma (Ms sb mb) ba) bb bb):=hide ⟨.inl (.inl (.inl rfl)),.inl (.inl (.inr rfl)),.inl (.inr rfl),.inr rfl⟩
 have HLS:Hid (w.heap.size ≤ sb ∧ w.heap.size ≤ mb ∧ w.heap.size ≤ ba ∧ w.heap.size ≤ bb):=hide (by omega)
 generalize Ma (Ma (Ms sb mb) ba) bb = M at *
 have HE5:=hide hE5
 have HCa:=hide hCa
 have HC5:=hide hC5
 clear hE5 hC5 hm5 hCa hls g1 g2 l1 l2 l3 l3' l5 l5' hz0 hz12 hz2 z34 HB1 HB2 HE1 HB0 HT HE3 HC3 HC4 HM3 HM4
 go_wp2_with fail
 go_loopw [8,9] (fun nv iv wr => ∃ (k:Nat) (s:So) (ca cb:Ct) (T:Tb),nv = .int .u64 (k:Int) ∧ iv = .int .i64 (k:Int) ∧ k ≤ 25 ∧ k ≤ l.length ∧ Hid (Env M wr sb mb (4 + 12 * k) s ∧ CatR wr (fun k => ¬ M k) ba sb ca ∧ CatR wr (fun k => ¬ M k) bb sb cb ∧ Inv s T k (1 + 4 * k) ∧ Kn s T k ca ∧ Kn s T k cb ∧ Mst (fun k => w.heap.size ≤ k) w wr)) (fun _ iv _ => l.length - (intOf iv).toNat)
 case atStart => exact ⟨0,s0,c0,c0,_,rfl,rfl,by omega,by omega,hide ⟨HE5.out.more (by omega),HCa.out,HC5.out,HP.out.2.2.1,HP.out.2.2.2,HP.out.2.2.2,HM5.out⟩⟩
 case round =>
  obtain ⟨k,s,ca,cb,T,rfl,rfl,hk25,hkl,hst⟩:=hrel
  clear HE5 HCa HC5 HM5
  by_cases hlt:k < l.length ∧ k < 25
  ·obtain ⟨h1,h2⟩:=hlt
   have y1:decide ((k:Int) < (l.length:Int)) = true:=decide_eq_true (by omega)
   have y2:decide ((k:Int) < 25) = true:=decide_eq_true (by omega)
   obtain ⟨b,off,hA,hb,x0⟩:=HR.out.cellAt (k:=k) (by simpa using h1)
   have x0:w.cell? ⟨b,off + k,none⟩ = some (.bool (l.getD k false)):=x0.trans (by simp [List.getD,h1])
   rw [← hst.out.2.2.2.2.2.2.cell (p:=⟨b,off + k,none⟩) hb (by show ¬ w.heap.size ≤ b;omega)] at x0
   generalize l.getD k false = t at *
   subst hA
   clear hb
   go_upto_if 53 with fail
   clear x0
   go_cut [10,11] from 54 to 55 (fun v10 v11 wx => ∃ (bc bd:Nat) (cc cd:Ct),v10 = .pointer (some ⟨bc,0,none⟩) ∧ v11 = .pointer (some ⟨bd,0,none⟩) ∧ Hid ((bc = ba ∧ bd = bb ∧ cc = ca ∧ cd = cb) ∨ (bc = bb ∧ bd = ba ∧ cc = cb ∧ cd = ca)) ∧ wr = wx)
   case first =>
    cases t with
    | true =>
      go_wp2_with fail
      go_meet
      exact ⟨bb,ba,cb,ca,rfl,rfl,hide (.inr ⟨rfl,rfl,rfl,rfl⟩),rfl⟩
    | false =>
      go_wp2_with fail
      go_meet
      exact ⟨ba,bb,ca,cb,rfl,rfl,hide (.inl ⟨rfl,rfl,rfl,rfl⟩),rfl⟩
   case rest =>
    obtain ⟨bc,bd,cc,cd,rfl,rfl,hsw,rfl⟩:=hcut
    have HX:Hid (CatR wr (fun k => ¬ M k) bc sb cc ∧ CatR wr (fun k => ¬ M k) bd sb cd ∧ Kn s T k cc ∧ Kn s T k cd):=hide (by
     rcases hsw.out with ⟨rfl,rfl,rfl,rfl⟩ | ⟨rfl,rfl,rfl,rfl⟩
     ·exact ⟨hst.out.2.1,hst.out.2.2.1,hst.out.2.2.2.2.1,hst.out.2.2.2.2.2.1⟩
     ·exact ⟨hst.out.2.2.1,hst.out.2.1,hst.out.2.2.2.2.2.1,hst.out.2.2.2.2.1⟩)
    have HN:Hid ((bc ≠ sb ∧ bc ≠ mb ∧ bd ≠ sb ∧ bd ≠ mb ∧ bd ≠ bc) ∧ M bc ∧ M bd ∧ w.heap.size ≤ bc):=hide (by
     have n1:=N1.out
     have n2:=N2.out
     rcases hsw.out with ⟨rfl,rfl,rfl,rfl⟩ | ⟨rfl,rfl,rfl,rfl⟩
     ·exact ⟨⟨n1.1,n1.2,n2.1,n2.2.1,fun e => n2.2.2 e.symm⟩,HMM.out.2.2.1,HMM.out.2.2.2,HLS.out.2.2.1⟩
     ·exact ⟨⟨n2.1,n2.2.1,n1.1,n1.2,n2.2.2⟩,HMM.out.2.2.2,HMM.out.2.2.1,HLS.out.2.2.2⟩)
    have hokd:cd.t.ok:=by obtain ⟨m,_,hg⟩:=HX.out.2.2.2.good;exact hg.ok
    have hokc:cc.t.ok:=by obtain ⟨m,_,hg⟩:=HX.out.2.2.1.good;exact hg.ok
    have htd:=catTable _ wr sb bd cd HX.out.2.1 hokd
    have HS:=hide hst.out
    have HOKD:=hide hokd
    have HOKC:=hide hokc
    clear hst hokd hokc
    obtain ⟨cu,hcu⟩:∃ cu,cd.t.cur.toNat = cu:=⟨_,rfl⟩
    have HCU:=hide hcu
    go_wp2_with fail
    refine htd.mono ?_
    rintro e w6 ⟨sA,sc,ss,nA,nc,ns,rfl,_,_,_,hb6⟩
    rw [hcu]
    clear htd hcu
    have hfd:=field_cur (.slice sA ss.length sc) (.slice nA ns.length nc) (.int .u64 (cu:Int))
    obtain ⟨o,ho⟩:∃ o:UInt64,o.toNat = k + 1:=⟨UInt64.ofNat (k + 1),by rw [UInt64.toNat_ofNat'];omega⟩
    have hw1:IntKind.i64.wrap ((k:Int) + 1) = (k:Int) + 1:=Go.IntWalk.i64_in _ (by omega)
    have hw2:IntKind.u64.wrap ((k:Int) + 1) = (k:Int) + 1:=by rw [IntKind.wrap_u64];omega
    have HE6:=hide (HS.out.1.low hb6)
    have HC6:=hide (HX.out.1.low hb6)
    have HD6:=hide (HX.out.2.1.low hb6)
    have HM6:=hide (HS.out.2.2.2.2.2.2.trans (Mst.of hb6))
    have hcm:Calls Tryz.prog 13 #[.pointer (some ⟨bc,0,none⟩),.agg #[.bool false,.slice none 0 0,.slice none 0 0,.slice none 0 0,.int .u64 ((k:Int) + 1),.int .u64 0]] w6 (CmEnd M w6 sb mb bc (4 + 12 * k + 12) (publish (chCommit (dOff o)) 3 s cc)):=by
     have h:=catCommit M w6 sb mb bc (4 + 12 * k) s HE6.out (by omega) cc HC6.out HOKC.out HN.out.2.1 HN.out.1.1 HN.out.1.2.1 (dOff o) none 0 none 0 [] none 0 (drq_nil w6 _ o)
     change Calls Tryz.prog 13 #[.pointer (some ⟨bc,0,none⟩),.agg #[.bool false,.slice none 0 0,.slice none 0 0,.slice none 0 0,.int .u64 (o.toNat:Int),.int .u64 0]] w6 (CmEnd M w6 sb mb bc (4 + 12 * k + 12) (publish (chCommit (dOff o)) 3 s cc)) at h
     rw [show (o.toNat:Int) = (k:Int) + 1 by omega] at h
     exact h
    obtain ⟨r,hr⟩:∃ r,publish (chCommit (dOff o)) 3 s cc = r:=⟨_,rfl⟩
    have HCA:=hide (commit_any HS.out.2.2.2.1 HX.out.2.2.1 (by omega) (by omega) ho hr)
    have HR2:=hide hr
    clear hb6 ho hr
    go_wp2_with fail
    refine hcm.mono ?_
    rintro e w7 hcme
    clear hcm hfd
    obtain ⟨A8,c8,rfl,hE7,hC7,hok7,hm7⟩:=cm_vals hcme HR2.out HCA.out.1
    clear hcme
    have hid:(r.n.id.toNat:Int) = (k:Int) + 1:=by rw [HCA.out.2.1];rfl
    rw [hid]
    clear hid
    have hbn:=below_al w7 (.cells #[.int .u64 ((k:Int) + 1),.int .u64 (r.n.par.toNat:Int),.int .u64 (r.n.seq.toNat:Int),.int .u64 (r.n.off.toNat:Int),.int .u64 (r.n.tim.toNat:Int),.int .u32 (r.n.sch.toNat:Int),.slice A8 r.n.ms.length c8] 43)
    have yx:=boxN_new w7 #[.int .u64 ((k:Int) + 1),.int .u64 (r.n.par.toNat:Int),.int .u64 (r.n.seq.toNat:Int),.int .u64 (r.n.off.toNat:Int),.int .u64 (r.n.tim.toNat:Int),.int .u32 (r.n.sch.toNat:Int),.slice A8 r.n.ms.length c8] 43
    have HE8:=hide (hE7.low hbn)
    have HC8:=hide (hC7.low hbn)
    have HD8:=hide ((HD6.out.mc hm7 HMM.out.1 HMM.out.2.1 HN.out.2.1 HN.out.1.2.2.1 HN.out.1.2.2.2.1 HN.out.1.2.2.2.2).low hbn)
    have HM8:=hide ((HM6.out.trans (hm7.imp (N:=fun k => w.heap.size ≤ k) fun k _ q => by rcases q with rfl | rfl | rfl;exact HLS.out.1;exact HLS.out.2.1;exact HN.out.2.2.2)).trans (Mst.of hbn))
    have HOK7:=hide hok7
    clear hE7 hC7 hok7 hm7 hbn
    go_upto_region 17 with fail
    generalize w7.alloc (.cells #[.int .u64 ((k:Int) + 1),.int .u64 (r.n.par.toNat:Int),.int .u64 (r.n.seq.toNat:Int),.int .u64 (r.n.off.toNat:Int),.int .u64 (r.n.tim.toNat:Int),.int .u32 (r.n.sch.toNat:Int),.slice A8 r.n.ms.length c8] 43) = w8 at *
    generalize w7.heap.size = bx at *
    have x0:=yx.cell 0 _ rfl
    clear yx
    have htc:=catTable _ w8 sb bc r.c HC8.out HOK7.out
    have hcu1:(r.c.t.cur.toNat:Int) = (k:Int) + 1:=by rw [inv_cur HCA.out.2.2.1];rfl
    go_wp2_with fail
    refine htc.mono ?_
    rintro e w9 ⟨sA3,sc3,ss3,nA3,nc3,ns3,rfl,_,_,_,hb9⟩
    rw [hcu1]
    clear htc hcu1 x0
    have hfd:=field_cur (.slice sA3 ss3.length sc3) (.slice nA3 ns3.length nc3) (.int .u64 ((k:Int) + 1))
    have HE9:=hide (HE8.out.low hb9)
    have HC9:=hide (HC8.out.low hb9)
    have HD9:=hide (HD8.out.low hb9)
    have HM9:=hide (HM8.out.trans (Mst.of hb9))
    have htd:=catTable _ w9 sb bd cd HD9.out HOKD.out
    clear hb9
    go_wp2_with fail
    refine htd.mono ?_
    rintro e w10 ⟨sA4,sc4,ss4,nA4,nc4,ns4,rfl,_,_,_,hb10⟩
    rw [HCU.out]
    clear htd hfd
    have hfd:=field_cur (.slice sA4 ss4.length sc4) (.slice nA4 ns4.length nc4) (.int .u64 (cu:Int))
    have HF:Hid (∃ ca' cb',Env M w10 sb mb (4 + 12 * (k + 1)) r.s ∧ CatR w10 (fun k => ¬ M k) ba sb ca' ∧ CatR w10 (fun k => ¬ M k) bb sb cb' ∧ Inv r.s r.c.t (k + 1) (1 + 4 * (k + 1)) ∧ Kn r.s r.c.t (k + 1) ca' ∧ Kn r.s r.c.t (k + 1) cb' ∧ Mst (fun k => w.heap.size ≤ k) w w10):=hide (by
     obtain ⟨q1,q2,q3,q4,q5,q6⟩:=HCA.out
     have e1:=(HE9.out.low hb10).more (K2:=4 + 12 * (k + 1)) (by omega)
     have e2:=HC9.out.low hb10
     have e3:=HD9.out.low hb10
     have e4:=q3.more (k2:=1 + 4 * (k + 1)) (by omega)
     have e5:=q6 cd HX.out.2.2.2
     have e6:=HM9.out.trans (Mst.of hb10)
     rcases hsw.out with ⟨rfl,rfl,rfl,rfl⟩ | ⟨rfl,rfl,rfl,rfl⟩
     ·exact ⟨_,_,e1,e2,e3,e4,q5,e5,e6⟩
     ·exact ⟨_,_,e1,e3,e2,e4,e5,q5,e6⟩)
    obtain ⟨ca',cb',HF⟩:=HF.out
    have HF:=hide HF
    clear hb10
    go_wp2_with fail
    go_roundw
    case rel => exact ⟨k + 1,r.s,ca',cb',r.c.t,by go_num,by go_num,by omega,by omega,HF⟩
    case measure => simp [intOf];omega
  ·have HS:=hide hst.out
   clear hst
   go_upto_region 10 with fail
   go_cut [45] from 38 to 45 (fun v wx => v = .bool false ∧ wr = wx)
   case first =>
    by_cases h1:k < l.length
    ·have y1:decide ((k:Int) < (l.length:Int)) = true:=decide_eq_true (by omega)
     have y2:decide ((k:Int) < 25) = false:=decide_eq_false (by omega)
     clear hlt
     go_wp2_with fail
     go_meet
     exact ⟨rfl,rfl⟩
    ·have y1:decide ((k:Int) < (l.length:Int)) = false:=decide_eq_false (by omega)
     clear hlt
     go_wp2_with fail
     go_meet
     exact ⟨rfl,rfl⟩
   case rest =>
    obtain ⟨rfl,rfl⟩:=hcut
    clear hlt
    have hra:=catRefresh M wr sb mb ba (4 + 12 * k) s HS.out.1 ca HS.out.2.1 HMM.out.2.2.1 N1.out.1 N1.out.2
    rw [refresh_on HS.out.2.2.2.1] at hra
    have hok:T.ok:=HS.out.2.2.2.1.good.ok
    go_wp2_with fail
    refine hra.mono ?_
    rintro e w6 ⟨rfl,hE6,hC6,hm6⟩
    clear hra
    dsimp only at hC6
    have HD6:=hide (HS.out.2.2.1.mst hm6 (fun k hk q => hk (q ▸ HMM.out.2.2.1)) (fun q => N2.out.2.2 q.symm))
    have HM6:=hide (HS.out.2.2.2.2.2.2.trans (hm6.imp (N:=fun k => w.heap.size ≤ k) fun k _ q => q ▸ HLS.out.2.2.1))
    have hrb:=catRefresh M w6 sb mb bb (4 + 12 * k) s hE6 cb HD6.out HMM.out.2.2.2 N2.out.1 N2.out.2.1
    rw [refresh_on HS.out.2.2.2.1] at hrb
    have HC6:=hide hC6
    clear hE6 hC6 hm6
    go_wp2_with fail
    refine hrb.mono ?_
    rintro e w7 ⟨rfl,hE7,hC7,hm7⟩
    clear hrb
    dsimp only at hC7
    have HC7:=hide (HC6.out.mst hm7 (fun k hk q => hk (q ▸ HMM.out.2.2.2)) (fun q => N2.out.2.2 q))
    have HM7:=hide (HM6.out.trans (hm7.imp (N:=fun k => w.heap.size ≤ k) fun k _ q => q ▸ HLS.out.2.2.2))
    have HD7:=hide hC7
    clear hE7 hC7 hm7
    have hta:Calls Tryz.prog 12 #[.pointer (some ⟨ba,0,none⟩)] w7 (TbEnd w7 T):=catTable _ w7 sb ba ⟨T,s.cell⟩ HC7.out hok
    have hcu:(T.cur.toNat:Int) = (k:Int):=by rw [inv_cur HS.out.2.2.2.1]
    have hln:T.ns.length = k:=HS.out.2.2.2.1.good.len
    go_wp2_with fail
    refine hta.mono ?_
    rintro e w8 ⟨sA,sc,ss,nA,nc,ns,rfl,_,_,hns,hb8⟩
    rw [hcu]
    obtain rfl:k = ns.length:=by rw [← hln, ← hns,List.length_map]
    clear hta hns
    have HC8:=hide (HC7.out.low hb8)
    have HD8:=hide (HD7.out.low hb8)
    have HM8:=hide (HM7.out.trans (Mst.of hb8))
    clear hb8
    have htb:Calls Tryz.prog 12 #[.pointer (some ⟨bb,0,none⟩)] w8 (TbEnd w8 T):=catTable _ w8 sb bb ⟨T,s.cell⟩ HD8.out hok
    go_wp2_with fail
    refine htb.mono ?_
    rintro e w9 ⟨sA3,sc3,ss3,nA3,nc3,ns3,rfl,_,_,hns3,hb9⟩
    rw [hcu]
    have hl3:ns3.length = ns.length:=by rw [← hln, ← hns3,List.length_map]
    rw [hl3]
    clear htb hns3 hl3 hln
    obtain ⟨n,hn⟩:∃ n,ns.length = n:=⟨_,rfl⟩
    rw [hn] at hk25 hkl hcu ⊢
    clear hcu
    have hw3:IntKind.i64.wrap (n:Int) = (n:Int):=Go.IntWalk.i64_in _ (by omega)
    have hb10:=below_al w9 (.cells #[.slice sA ss.length sc,.slice nA n nc,.int .u64 (n:Int)] 39)
    have yp:=boxN_new w9 #[.slice sA ss.length sc,.slice nA n nc,.int .u64 (n:Int)] 39
    have hb11:=below_al (w9.alloc (.cells #[.slice sA ss.length sc,.slice nA n nc,.int .u64 (n:Int)] 39)) (.cells #[.slice sA3 ss3.length sc3,.slice nA3 n nc3,.int .u64 (n:Int)] 39)
    have yq:=boxN_new (w9.alloc (.cells #[.slice sA ss.length sc,.slice nA n nc,.int .u64 (n:Int)] 39)) #[.slice sA3 ss3.length sc3,.slice nA3 n nc3,.int .u64 (n:Int)] 39
    have yp1:=yp.keep hb11 yp.z
    have HC11:=hide (((HC8.out.low hb9).low hb10).low hb11)
    have HD11:=hide (((HD8.out.low hb9).low hb10).low hb11)
    have HM11:=hide (((HM8.out.trans (Mst.of hb9)).trans (Mst.of hb10)).trans (Mst.of hb11))
    clear hb9 hb10 hb11 yp
    go_upto_region 23 with fail
    have yq1:=yq.at_ (show _ = w9.heap.size + 1 by simp)
    clear yq
    generalize (w9.alloc (.cells #[.slice sA ss.length sc,.slice nA n nc,.int .u64 (n:Int)] 39)).alloc (.cells #[.slice sA3 ss3.length sc3,.slice nA3 n nc3,.int .u64 (n:Int)] 39) = w11 at *
    generalize w9.heap.size + 1 = bq at *
    generalize w9.heap.size = bp at *
    have p1:=yp1.cell 1 _ rfl
    have p2:=yp1.cell 2 _ rfl
    have q2:=yq1.cell 2 _ rfl
    have hna:=catName _ w11 sb ba ⟨T,s.cell⟩ HC11.out
    have hnb:=catName _ w11 sb bb ⟨T,s.cell⟩ HD11.out
    generalize s.cell = nm at *
    clear yp1 yq1
    go_wp2_with fail
    refine hna.mono ?_
    rintro e w12 ⟨rfl,rfl⟩
    clear hna
    go_wp2_with fail
    refine hnb.mono ?_
    rintro e w12 ⟨rfl,rfl⟩
    clear hnb
    go_wp2_with fail
    go_ret
    exact ⟨rfl,HM11.out.below (fun k hk => hk) (Nat.le_refl _)⟩

theorem contract (H:Type) (enc:TypeId × Value → H) (W:World) (base:Nat) (args:Array Value) (ds gs:List (DataW H)) (before:List MemPlace)
 (hval0:∀ (j:Nat) t v,Tryz.f3.params[j]? = some t → args[j]? = some v → Value.okWide Tryz.prog W .any base t v)
 (hW:DataW.Whole enc Tryz.prog Tryz.f3.params.toList Rows.catalogOthersSpec.vars false W args.toList ds gs before) (hL:laidMetH Tryz.prog Rows.catalogOthersRow.laid W) :
 Calls Tryz.prog 3 args W fun e W' => ∃ v,e = .returned v ∧ Rows.catalogOthersSpec.post enc Tryz.prog Tryz.f3 false true false false W args v W':=by
 have hval:∀ (j:Nat) t v,Tryz.f3.params[j]? = some t → args[j]? = some v → Value.okWide Tryz.prog W .any base t v:=hval0
 have hW':=hW
 obtain ⟨p,q,hA0,hV,rfl,hfz,hnd⟩:=hW
 have hA:DataW.TrodAll enc Tryz.prog W 0 (fun _ => true) true Tryz.f3.params.toList args.toList ds p:=hA0
 rw [Tryz.params3] at hA hval
 obtain ⟨v0,vs0,d0,ds0,p0,q0,hargs,rfl,rfl,h0,r0⟩:=trodAll_cons hA
 obtain ⟨rfl,rfl,rfl⟩:=trodAll_nil r0
 obtain rfl:args = #[v0]:=by cases args;simp_all
 obtain ⟨rfl,rfl⟩:=trodVars_none hV
 have k0:=h0
 have lt0:∀ x ∈ p0,x.block < W.heap.size:=by obtain ⟨m,hm⟩:=k0;exact DataW.trod_lt m _ _ _ hm
 obtain ⟨A0,c0,l0,rfl,w0⟩:=frame_bools (hval 0 22 v0 rfl rfl) h0
 clear hA0 hval0
 refine (walk W (tabs hL) A0 c0 l0 w0).mono fun e W' ⟨he,bel⟩ => ?_
 subst he
 exact ⟨_,rfl,_,_,_,[],_,[],hW',trodAll_mk1 (shut_bool Tryz.underlying4 _),(trodAll_cons_mk (Below.trod laidOut (by kernel_rfl) (of_decide_eq_true (by kernel_rfl)) k0 bel lt0) trodAll_mk0),rfl,bel.frame _,fun h => by cases h⟩

noncomputable def laidWorld (os:Os):World:=World.laidAll Tryz.prog os Rows.catalogOthersRow.laid
theorem laid_met (os:Os):laidMet Tryz.prog Rows.catalogOthersRow.laid ((laidWorld os).forCall (fun _ _ => 0) ⟨#[],#[.slice none 0 0],[]⟩).memory:=laid_at os _
theorem reads (os:Os) {H:Type} (enc:TypeId × Value → H):∃ places,DataW.whole enc Tryz.prog ((laidWorld os).forCall (fun _ _ => 0) ⟨#[],#[.slice none 0 0],[]⟩).memory Tryz.f3.params.toList Rows.catalogOthersSpec.vars false (#[.slice none 0 0]:Array Value).toList 8 = some ([.nil],[],places) :=
 ⟨[],by kernel_rfl⟩

theorem lifted (os:Os) (started:os.Started) (H:Type) (enc:TypeId × Value → H) (F:Stop.Interp) :
 ReturnsInHanded {} Tryz.checked os 3 .any ((OpenSpec.ofChange Rows.catalogOthersSpec).preRow enc Tryz.prog Tryz.f3 Rows.catalogOthersRow.domain false Rows.catalogOthersRow.laid) (((OpenSpec.ofChange Rows.catalogOthersSpec).at F).post enc Tryz.prog Tryz.f3 false true false false):=by
 obtain ⟨places,hx⟩:=reads os enc
 refine returnsInHanded_of_row (C:=Tryz.checked) (s:=OpenSpec.ofChange Rows.catalogOthersSpec) own started (by kernel_rfl) Tryz.func3
  (witness_row_atRef (enc:=enc) (C:=Tryz.checked) false (laidWorld os) #[.slice none 0 0] (World.laidAll_os _ _ _) (by kernel_rfl) (by kernel_rfl) (by kernel_rfl)
    (OpenSpec.preRow_of_cond 8 hx (by kernel_rfl) (fun k hk => by cases hk) (by kernel_rfl) (laid_met os))) ?_
 intro W base args ds gs before hval hW _ _ _ hL _ _
 exact contract H enc W base args ds gs before hval hW hL

theorem said:Rows.CatalogOthersSaid :=
 OpenClaim.holds_of_cond 3 Tryz.f3 rfl rfl rfl rfl rfl rfl rfl ⟨rfl,rfl,rfl,rfl,rfl⟩ rfl rfl rfl rfl rfl (by kernel_rfl) Tryz.func3 closed
  (of_decide_eq_true (by kernel_rfl)) (by unfold Func.isWrapper;first | (rw [if_pos (by decide +kernel)];kernel_rfl) | (rw [if_neg (by decide +kernel)];exact ⟨rfl,rfl⟩))
  (fun os started H enc _ F => by rw [OpenClaim.pre_eq_preRow];exact lifted os started H enc F)

theorem plain (f:FuncId) (fn:Func) (hf:Tryz.pinned.checked.prog.funcNamed "catchment/catchmentlaw15.CatalogOthers" = some f) (hfn:Tryz.pinned.checked.prog.funcs[f]? = some fn) :
 true = Tryz.pinned.checked.prog.looks [] ∧ ∀ (j:Nat) t,fn.params[j]? = some t → Tryz.pinned.checked.prog.wantsStandIn t = false:=by
 obtain rfl:f = 3:=Option.some.inj ((show Tryz.prog.funcNamed "catchment/catchmentlaw15.CatalogOthers" = some 3 by kernel_rfl).symm.trans hf) |>.symm
 obtain rfl:fn = Tryz.f3:=(Option.some.inj (Tryz.func3.symm.trans hfn)).symm
 refine ⟨by kernel_rfl,fun j t ht => ?_⟩
 rw [Tryz.params3] at ht
 have hm:=Array.mem_of_getElem? ht
 simp only [List.mem_toArray,List.mem_cons,List.not_mem_nil,or_false] at hm
 subst hm
 ·exact (show Tryz.prog.wantsStandIn 22 = false by kernel_rfl)

theorem proved:Rows.CatalogOthersCardSaid :=
 Claim7.holds_tied_plain_at .later [] _ _ _ _ said (fun _ h => by cases h) (by kernel_rfl) (fun _ h => by cases h) catalogOthers_row_tie rfl ⟨rfl,rfl⟩ (by kernel_rfl) rfl plain (by kernel_rfl)
#print axioms proved
end Go.Proofs.YtpfofefecamkfaaGreatDoor.catalogOthers
