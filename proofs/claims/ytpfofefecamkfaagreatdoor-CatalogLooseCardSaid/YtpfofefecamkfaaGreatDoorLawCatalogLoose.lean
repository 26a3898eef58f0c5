/- CatalogLoose: for every input the law returns true, and what was there is as it was; the table as the program's text lays it: the card. -/
import Derived.Test.YtpfofefecamkfaaGreatDoorCards
import Derived.Test.YtpfofefecamkfaaGreatDoorTie
import Derived.WalkKit
import Derived.ProofKit
import Derived.OpenShut
import Derived.Deep.DeepHandedRow
import Derived.Test.YtpfofefecamkfaaGreatDoorCtFr
import Derived.Test.YtpfofefecamkfaaGreatDoorJ3CatalogLoose
import Derived.Deep.DeepWitnessRowRef
import Derived.Test.YtpfofefecamkfaaGreatDoorCtLw
namespace Go.Proofs.YtpfofefecamkfaaGreatDoor.catalogLoose
set_option maxRecDepth 100000
open Go.Proofs.YtpfofefecamkfaaGreatDoor
open Go.ChangeShapes Go.WideShapes Go.ChangeAt Go.RowKit
open Go.ChangeMaps (open_string shut_string)

theorem own:ownKnob Tryz.prog.godebug = none:=by kernel_rfl
theorem laidOut:laidOutB Tryz.prog = true:=by kernel_rfl
theorem tabs {W:World} (h:laidMetH Tryz.prog Rows.catalogLooseRow.laid W):Tabs W:=tabs_of h

set_option maxHeartbeats 8000000 in
theorem walk (w:World) (ht:Tabs w) (A:Option Addr) (c:Nat) (l:List Dl) (hr:Rd w w.heap.size 6 A l.length c (dlsV l)) (hi:∀ o ∈ l,DlR w o) :
 Calls Tryz.prog 4 #[.slice A l.length c] w fun e w' => e = .returned (.bool true) ∧ Below w.heap.size w w':=by
 have hmax:l.length ≤ 9223372036854775807:=by have h1:=hr.le;have h2:=hr.cap;unfold maxLen at h2;omega
 have hal:=alive15 w ht
 have HR:=hide hr
 have HI:=hide hi
 have HT:=hide ht
 clear hr hi ht
 go_enter Tryz.func4,Tryz.ntmps4
 go_wp2_with fail
 refine hal.mono ?_
 rintro e w0 ⟨rfl,hb0⟩
 clear hal
 have hn:=newStore w0 (HT.out.low hb0) 4000000 (by decide) (by decide)
 have HB0:=hide hb0
 clear hb0
 go_wp2_with fail
 refine hn.mono ?_
 rintro e w1 ⟨sb,mb,rfl,l1,l2,hE1,hb1⟩
 clear hn
 have htw:=lawTwo2 w1
 have HE1:=hide hE1
 have HB1:=hide (below_two HB0.out hb1)
 have hz0:=HB0.out.size
 clear hE1 hb1
 go_wp2_with fail
 refine htw.mono ?_
 rintro e w2 ⟨A2,k2,rfl,hr2,hb2⟩
 clear htw
 obtain ⟨s1,ca,hpl⟩:=open_plan 4000000 (.inr rfl)
 have hop:=catOpen (Ms sb mb) w2 sb mb 0 (So.new 4000000) (HE1.out.low hb2) (by omega) 1 two A2 k2 (hr2.imp fun j hj _ q => by have:=HE1.out.lt j q;omega)
 have HB2:=hide (below_two HB1.out hb2)
 have hz12:=hb2.size
 clear hr2 hb2
 go_wp2_with fail
 refine hop.mono ?_
 rintro e w3 hopn
 clear hop
 obtain ⟨ba,rfl,l3,l3',hE3,hC3,hm3⟩:=opn_at hopn hpl
 clear hopn
 have g1:=HE1.out.lt sb (.inl rfl)
 have g2:=HE1.out.lt mb (.inr rfl)
 have N1:Hid (ba ≠ sb ∧ ba ≠ mb):=hide (by omega)
 have hz2:w.heap.size ≤ w2.heap.size:=HB2.out.size
 have hls:w.heap.size ≤ sb ∧ w.heap.size ≤ mb ∧ w.heap.size ≤ ba:=by omega
 have HM3:=hide ((Mst.of (M:=fun k => w.heap.size ≤ k) HB2.out).trans (hm3.imp fun k _ q => by rcases q with rfl | rfl;exact hls.1;exact hls.2.1))
 have HLM:Hid (∀ k,Ma (Ms sb mb) ba k → w.heap.size ≤ k):=hide fun k q => by rcases q with (rfl | rfl) | rfl;exact hls.1;exact hls.2.1;exact hls.2.2
 have HMM:Hid (Ma (Ms sb mb) ba sb ∧ Ma (Ms sb mb) ba mb ∧ Ma (Ms sb mb) ba ba):=hide ⟨.inl (.inl rfl),.inl (.inr rfl),.inr rfl⟩
 have HF1:Hid (s1.firm ∧ ca.t.ok):=hide ⟨by have h:=firm_open (firm_new 4000000) (1,two);rw [hpl] at h;exact h,opened_ok hpl⟩
 have HLS:=hide hls
 have HE3:=hide hE3
 have HC3:=hide hC3
 generalize Ma (Ms sb mb) ba = M at *
 clear hE3 hC3 hm3 hls g1 g2 l1 l2 l3 l3' hz0 hz12 hz2 hpl HB1 HB2 HE1 HB0 HT
 go_wp2_with fail
 go_loopw [6] (fun iv wr => ∃ (k:Nat) (s:So) (c:Ct),iv = .int .i64 (k:Int) ∧ k ≤ 12 ∧ k ≤ l.length ∧ Hid (Env M wr sb mb (2 + 12 * k) s ∧ CatR wr (fun k => ¬ M k) ba sb c ∧ c.t.ok ∧ s.firm ∧ Mst (fun k => w.heap.size ≤ k) w wr)) (fun iv _ => l.length - (intOf iv).toNat)
 case atStart => exact ⟨0,s1,ca,rfl,by omega,by omega,hide ⟨HE3.out.more (by omega),HC3.out,HF1.out.2,HF1.out.1,HM3.out⟩⟩
 case round =>
  obtain ⟨k,s,c2,rfl,hk12,hkl,hst⟩:=hrel
  by_cases hlt:k < l.length ∧ k < 12
  ·obtain ⟨h1,h2⟩:=hlt
   have y1:decide ((k:Int) < (l.length:Int)) = true:=decide_eq_true (by omega)
   have y2:decide ((k:Int) < 12) = true:=decide_eq_true (by omega)
   obtain ⟨x,hx⟩:∃ x,l.getD k default = x:=⟨_,rfl⟩
   have hxl:x ∈ l:=by rw [← hx,List.getD_eq_getElem?_getD,List.getElem?_eq_getElem h1];exact List.getElem_mem h1
   obtain ⟨b,off,hA,hb,x0,x1,x2,x3,x4,x5⟩:=HR.out.dl h1 hx
   have kp:=fun j => hst.out.2.2.2.2.cell (p:=⟨b,j,none⟩) hb (by show ¬ w.heap.size ≤ b;omega)
   rw [← kp] at x0 x1 x2 x3 x4 x5
   have HXL:=hide (And.intro hxl (HI.out x hxl))
   have HXC:=hide (And.intro x0 (And.intro x1 (And.intro x2 (And.intro x3 (And.intro x4 x5)))))
   have HBL:=hide hb
   subst hA
   clear hx hxl kp hb
   have hg:Calls Tryz.prog 16 #[.agg #[.int .u8 0,.bool false,.bool x.d.rew,.slice x.fA x.d.fs.length x.fc,.slice x.aA x.al.length x.ac,.slice x.dA x.d.drops.length x.dc,.int .u64 (x.d.off.toNat:Int),.int .u64 (x.d.tim.toNat:Int),.string ⟨#[]⟩,.int .u8 0,.slice none 0 0,.slice none 0 0,.int .i64 0,.slice none 0 0]] wr (GrtEnd wr x.op):=great15 wr _ x.op (HXL.out.2.opq hst.out.2.2.2.2)
   go_wp2_with fail
   refine hg.mono ?_
   rintro e w4 ⟨g,rfl,hsm,hb4⟩
   clear hg
   have HB4:=hide hb4
   have HSM:=hide hsm
   have zb:b < wr.heap.size:=Nat.lt_of_lt_of_le HBL.out hst.out.2.2.2.2.size
   have x0:=(hb4.cell (p:=⟨b,off + k * 6,none⟩) zb).trans HXC.out.1
   have x1:=(hb4.cell (p:=⟨b,off + k * 6 + 1,none⟩) zb).trans HXC.out.2.1
   have x2:=(hb4.cell (p:=⟨b,off + k * 6 + 2,none⟩) zb).trans HXC.out.2.2.1
   have x3:=(hb4.cell (p:=⟨b,off + k * 6 + 3,none⟩) zb).trans HXC.out.2.2.2.1
   have x4:=(hb4.cell (p:=⟨b,off + k * 6 + 4,none⟩) zb).trans HXC.out.2.2.2.2.1
   have x5:=(hb4.cell (p:=⟨b,off + k * 6 + 5,none⟩) zb).trans HXC.out.2.2.2.2.2
   have HM4:=hide (hst.out.2.2.2.2.trans (Mst.of hb4))
   have HE4:=hide (hst.out.1.low hb4)
   have HC4:=hide (hst.out.2.1.low hb4)
   have HOK:=hide (And.intro hst.out.2.2.1 hst.out.2.2.2.1)
   clear hb4 hsm zb hst
   cases g with
   | true =>
     go_wp2_with fail
     go_ret
     exact ⟨rfl,HM4.out.below (fun k hk => hk) (Nat.le_refl _)⟩
   | false =>
     have hsx:=HSM.out rfl
     have HDQ:=hide (HXL.out.2.drq HM4.out HLM.out (by have:=hsx.a;show _ ≤ _;exact Nat.le_trans this (by decide)) (by have:=hsx.d;show _ ≤ _;exact Nat.le_trans this (by decide)))
     clear hsx
     have hcm:=catCommit M w4 sb mb ba (2 + 12 * k) s HE4.out (by omega) c2 HC4.out HOK.out.1 HMM.out.2.2 N1.out.1 N1.out.2 x.d x.fA x.fc x.aA x.ac x.al x.dA x.dc HDQ.out
     obtain ⟨r,hr⟩:∃ r,publish (chCommit x.d) 3 s c2 = r:=⟨_,rfl⟩
     rw [hr] at hcm
     have HFR:Hid r.s.firm:=hide (by rw [← hr];exact firm_publish (fun s t h => firm_commit x.d s t h) 3 s c2 HOK.out.2)
     clear hr
     go_wp2_with fail
     refine hcm.mono ?_
     rintro e w5 hcme
     obtain ⟨i0,i1,i2,i3,i4,i5,xA,xn,xc,rfl,hE5,hC5,hok5,hm5,_⟩:=cm_form hcme
     clear hcme
     clear hcm x0 x1 x2 x3 x4 x5
     have hbn:=below_al w5 (.cells #[.int .u64 (i0.toNat:Int),.int .u64 (i1.toNat:Int),.int .u64 (i2.toNat:Int),.int .u64 (i3.toNat:Int),.int .u64 (i4.toNat:Int),.int .u32 (i5.toNat:Int),.slice xA xn xc] 43)
     have HE6:=hide (hE5.low hbn)
     have HC6:=hide (hC5.low hbn)
     have HM6:=hide ((HM4.out.trans (hm5.imp (N:=fun k => w.heap.size ≤ k) fun k _ q => by rcases q with rfl | rfl | rfl;exact HLS.out.1;exact HLS.out.2.1;exact HLS.out.2.2)).trans (Mst.of hbn))
     have HOK5:=hide hok5
     clear hE5 hC5 hm5 hok5 hbn
     go_upto_region 13 with fail
     generalize w5.alloc (.cells #[.int .u64 (i0.toNat:Int),.int .u64 (i1.toNat:Int),.int .u64 (i2.toNat:Int),.int .u64 (i3.toNat:Int),.int .u64 (i4.toNat:Int),.int .u32 (i5.toNat:Int),.slice xA xn xc] 43) = w6 at *
     generalize w5.heap.size = bx at *
     have hsl:=So.list_on HFR.out.calm.dead
     have hls:Calls Tryz.prog 17 #[.pointer (some ⟨sb,0,none⟩)] w6 (ListEnd w6 r.s.list.1 r.s.list.2):=by
      obtain ⟨N,hN,hS⟩:=HE6.out.st
      exact objList _ w6 sb mb N r.s hS (by omega)
     rw [hsl] at hls
     dsimp only at hls
     obtain ⟨nl,hnl⟩:∃ nl,namesM r.s.m = nl:=⟨_,rfl⟩
     rw [hnl] at hls hsl
     have HSL:=hide hsl
     clear hsl
     go_wp2_with fail
     refine hls.mono ?_
     rintro e w7 ⟨hb7,B1,n1,rfl,hr7,hn7⟩
     clear hls
     have HQ7:=hide (list_q hr7 hn7)
     have HE7:=hide (HE6.out.low hb7)
     have HC7:=hide (HC6.out.low hb7)
     have HM7:=hide (HM6.out.trans (Mst.of hb7))
     have HL6:Hid (∀ k,Ms sb mb k → k < w6.heap.size):=hide fun k q => by rcases q with rfl | rfl;exact HE6.out.lt _ HMM.out.1;exact HE6.out.lt _ HMM.out.2.1
     clear hr7 hn7 hb7
     by_cases h0:r.e = 0
     ·have t55:((r.e:Int) != 0) = false:=by rw [h0];rfl
      have hcr:Calls Tryz.prog 18 #[.pointer (some ⟨sb,0,none⟩),.slice none 0 0] w7 fun e w' => e = .returned (.tuple #[]) ∧ Env M w' sb mb (2 + 12 * k + 12) r.s ∧ Ost sb mb w7 w':=by
       obtain ⟨N,hN,hS⟩:=HE7.out.st
       refine (objCrash _ w7 sb mb N r.s hS none 0 [] (fun wx _ => Rd.nil _ _ _) (by rw [firm_loose HFR.out];show N + 0 ≤ _;omega)).mono ?_
       rintro e w' ⟨rfl,hS',O⟩
       rw [firm_crash HFR.out,firm_loose HFR.out] at hS'
       exact ⟨rfl,HE7.out.on hS' (by show N + 0 ≤ _;omega) O HE7.out.fit,O⟩
      clear h0
      go_wp2_with fail
      refine hcr.mono ?_
      rintro e w8 ⟨rfl,hE8,O8⟩
      clear hcr
      have HQ8:=hide ((Mst.ost O8).rdq HQ7.out fun k hk q => by have:=HL6.out k q;omega)
      have HC8:=hide (HC7.out.mst (Mst.ost O8) (fun k hk q => hk (by rcases q with rfl | rfl;exact HMM.out.1;exact HMM.out.2.1)) (fun q => q.elim N1.out.1 N1.out.2))
      have HM8:=hide (HM7.out.trans ((Mst.ost O8).imp (N:=fun k => w.heap.size ≤ k) fun k _ q => by rcases q with rfl | rfl;exact HLS.out.1;exact HLS.out.2.1))
      have HE8:=hide hE8
      clear hE8 O8
      have hls:Calls Tryz.prog 17 #[.pointer (some ⟨sb,0,none⟩)] w8 (ListEnd w8 r.s.list.1 r.s.list.2):=by
       obtain ⟨N,hN,hS⟩:=HE8.out.st
       exact objList _ w8 sb mb N r.s hS (by omega)
      rw [HSL.out] at hls
      dsimp only at hls
      go_wp2_with fail
      refine hls.mono ?_
      rintro e w9 ⟨hb9,B2,n2,rfl,hr9,hn9⟩
      clear hls hn9
      have HQ9:=hide (HQ8.out.low hb9)
      have HE9:=hide (HE8.out.low hb9)
      have HC9:=hide (HC8.out.low hb9)
      have HM9:=hide (HM8.out.trans (Mst.of hb9))
      have HR9:=hide hr9
      clear hr9 hb9
      have hlo:Calls Tryz.prog 19 #[.pointer (some ⟨sb,0,none⟩)] w9 (StrEnd w9 (looseM r.s.m)):=by
       obtain ⟨N,hN,hS⟩:=HE9.out.st
       exact objLoose _ w9 sb mb N r.s hS (by omega)
      rw [firm_loose HFR.out] at hlo
      go_wp2_with fail
      refine hlo.mono ?_
      rintro e w10 ⟨hb10,B3,n3,rfl,_,_⟩
      clear hlo
      have HE10:=hide (HE9.out.low hb10)
      have HC10:=hide (HC9.out.low hb10)
      have HM10:=hide (HM9.out.trans (Mst.of hb10))
      have htx:=refTexts w10 w10.heap.size nl.length n1 nl.length n2 B1 B2 nl nl (HQ9.out.low hb10).rd ((HR9.out.below hb10).more hb10.size) (Nat.le_refl _)
      rw [txEq_refl] at htx
      clear hb10
      go_wp2_with fail
      refine htx.mono ?_
      rintro e w11 ⟨rfl,hb11⟩
      clear htx
      have HF:=hide (And.intro ((HE10.out.low hb11).more (K2:=2 + 12 * (k + 1)) (by omega)) (And.intro (HC10.out.low hb11) (And.intro HOK5.out (And.intro HFR.out (HM10.out.trans (Mst.of hb11))))))
      clear hb11
      go_wp2_with fail
      go_roundw
      case rel => exact ⟨k + 1,r.s,r.c,by go_num,by omega,by omega,HF⟩
      case measure => simp [intOf];omega
     ·have t55:((r.e:Int) != 0) = true:=by rw [bne_iff_ne];omega
      have HF:=hide (And.intro (HE7.out.more (K2:=2 + 12 * (k + 1)) (by omega)) (And.intro HC7.out (And.intro HOK5.out (And.intro HFR.out HM7.out))))
      clear h0
      go_wp2_with fail
      go_roundw
      case rel => exact ⟨k + 1,r.s,r.c,by go_num,by omega,by omega,HF⟩
      case measure => simp [intOf];omega
  ·by_cases h1:k < l.length
   ·have y1:decide ((k:Int) < (l.length:Int)) = true:=decide_eq_true (by omega)
    have y2:decide ((k:Int) < 12) = false:=decide_eq_false (by omega)
    have HM:=hide hst.out.2.2.2.2
    clear hst hlt
    go_wp2_with fail
    go_ret
    exact ⟨rfl,HM.out.below (fun k hk => hk) (Nat.le_refl _)⟩
   ·have y1:decide ((k:Int) < (l.length:Int)) = false:=decide_eq_false (by omega)
    have HM:=hide hst.out.2.2.2.2
    clear hst hlt
    go_wp2_with fail
    go_ret
    exact ⟨rfl,HM.out.below (fun k hk => hk) (Nat.le_refl _)⟩

theorem contract (H:Type) (enc:TypeId × Value → H) (W:World) (base:Nat) (args:Array Value) (ds gs:List (DataW H)) (before:List MemPlace)
 (hval0:∀ (j:Nat) t v,Tryz.f4.params[j]? = some t → args[j]? = some v → Value.okWide Tryz.prog W .any base t v)
 (hW:DataW.Whole enc Tryz.prog Tryz.f4.params.toList Rows.catalogLooseSpec.vars false W args.toList ds gs before) (hL:laidMetH Tryz.prog Rows.catalogLooseRow.laid W) :
 Calls Tryz.prog 4 args W fun e W' => ∃ v,e = .returned v ∧ Rows.catalogLooseSpec.post enc Tryz.prog Tryz.f4 false true false false W args v W':=by
 have hval:∀ (j:Nat) t v,Tryz.f4.params[j]? = some t → args[j]? = some v → Value.okWide Tryz.prog W .any base t v:=hval0
 have hW':=hW
 obtain ⟨p,q,hA0,hV,rfl,hfz,hnd⟩:=hW
 have hA:DataW.TrodAll enc Tryz.prog W 0 (fun _ => true) true Tryz.f4.params.toList args.toList ds p:=hA0
 rw [Tryz.params4] at hA hval
 obtain ⟨v0,vs0,d0,ds0,p0,q0,hargs,rfl,rfl,h0,r0⟩:=trodAll_cons hA
 obtain ⟨rfl,rfl,rfl⟩:=trodAll_nil r0
 obtain rfl:args = #[v0]:=by cases args;simp_all
 obtain ⟨rfl,rfl⟩:=trodVars_none hV
 have k0:=h0
 have lt0:∀ x ∈ p0,x.block < W.heap.size:=by obtain ⟨m,hm⟩:=k0;exact DataW.trod_lt m _ _ _ hm
 obtain ⟨A0,c0,l0,rfl,w0,n0⟩:=frame_drafts (hval 0 52 v0 rfl rfl) h0
 clear hA0 hval0
 refine (walk W (tabs hL) A0 c0 l0 w0 n0).mono fun e W' ⟨he,bel⟩ => ?_
 subst he
 exact ⟨_,rfl,_,_,_,[],_,[],hW',trodAll_mk1 (shut_bool Tryz.underlying4 _),(trodAll_cons_mk (Below.trod laidOut (by kernel_rfl) (of_decide_eq_true (by kernel_rfl)) k0 bel lt0) trodAll_mk0),rfl,bel.frame _,fun h => by cases h⟩

noncomputable def laidWorld (os:Os):World:=World.laidAll Tryz.prog os Rows.catalogLooseRow.laid
theorem laid_met (os:Os):laidMet Tryz.prog Rows.catalogLooseRow.laid ((laidWorld os).forCall (fun _ _ => 0) ⟨#[],#[.slice none 0 0],[]⟩).memory:=laid_at os _
theorem reads (os:Os) {H:Type} (enc:TypeId × Value → H):∃ places,DataW.whole enc Tryz.prog ((laidWorld os).forCall (fun _ _ => 0) ⟨#[],#[.slice none 0 0],[]⟩).memory Tryz.f4.params.toList Rows.catalogLooseSpec.vars false (#[.slice none 0 0]:Array Value).toList 8 = some ([.nil],[],places) :=
 ⟨[],by kernel_rfl⟩

theorem lifted (os:Os) (started:os.Started) (H:Type) (enc:TypeId × Value → H) (F:Stop.Interp) :
 ReturnsInHanded {} Tryz.checked os 4 .any ((OpenSpec.ofChange Rows.catalogLooseSpec).preRow enc Tryz.prog Tryz.f4 Rows.catalogLooseRow.domain false Rows.catalogLooseRow.laid) (((OpenSpec.ofChange Rows.catalogLooseSpec).at F).post enc Tryz.prog Tryz.f4 false true false false):=by
 obtain ⟨places,hx⟩:=reads os enc
 refine returnsInHanded_of_row (C:=Tryz.checked) (s:=OpenSpec.ofChange Rows.catalogLooseSpec) own started (by kernel_rfl) Tryz.func4
  (witness_row_atRef (enc:=enc) (C:=Tryz.checked) false (laidWorld os) #[.slice none 0 0] (World.laidAll_os _ _ _) (by kernel_rfl) (by kernel_rfl) (by kernel_rfl)
    (OpenSpec.preRow_of_cond 8 hx (by kernel_rfl) (fun k hk => by cases hk) (by kernel_rfl) (laid_met os))) ?_
 intro W base args ds gs before hval hW _ _ _ hL _ _
 exact contract H enc W base args ds gs before hval hW hL

theorem said:Rows.CatalogLooseSaid :=
 OpenClaim.holds_of_cond 4 Tryz.f4 rfl rfl rfl rfl rfl rfl rfl ⟨rfl,rfl,rfl,rfl,rfl⟩ rfl rfl rfl rfl rfl (by kernel_rfl) Tryz.func4 closed
  (of_decide_eq_true (by kernel_rfl)) (by unfold Func.isWrapper;first | (rw [if_pos (by decide +kernel)];kernel_rfl) | (rw [if_neg (by decide +kernel)];exact ⟨rfl,rfl⟩))
  (fun os started H enc _ F => by rw [OpenClaim.pre_eq_preRow];exact lifted os started H enc F)

theorem plain (f:FuncId) (fn:Func) (hf:Tryz.pinned.checked.prog.funcNamed "catchment/catchmentlaw15.CatalogLoose" = some f) (hfn:Tryz.pinned.checked.prog.funcs[f]? = some fn) :
 true = Tryz.pinned.checked.prog.looks [] ∧ ∀ (j:Nat) t,fn.params[j]? = some t → Tryz.pinned.checked.prog.wantsStandIn t = false:=by
 obtain rfl:f = 4:=Option.some.inj ((show Tryz.prog.funcNamed "catchment/catchmentlaw15.CatalogLoose" = some 4 by kernel_rfl).symm.trans hf) |>.symm
 obtain rfl:fn = Tryz.f4:=(Option.some.inj (Tryz.func4.symm.trans hfn)).symm
 refine ⟨by kernel_rfl,fun j t ht => ?_⟩
 rw [Tryz.params4] at ht
 have hm:=Array.mem_of_getElem? ht
 simp only [List.mem_toArray,List.mem_cons,List.not_mem_nil,or_false] at hm
 subst hm
 ·exact (show Tryz.prog.wantsStandIn 52 = false by kernel_rfl)

theorem proved:Rows.CatalogLooseCardSaid :=
 Claim7.holds_tied_plain_at .later [] _ _ _ _ said (fun _ h => by cases h) (by kernel_rfl) (fun _ h => by cases h) catalogLoose_row_tie rfl ⟨rfl,rfl⟩ (by kernel_rfl) rfl plain (by kernel_rfl)
#print axioms proved
end Go.Proofs.YtpfofefecamkfaaGreatDoor.catalogLoose
