/- THE WALK of the catalog's publish, over what the change does. No statement of the seat is proved here; no condition but sizes. -/
import Derived.Test.YtpfofefecamkfaaGreatDoorCtJ
import Derived.StillTailTactics
namespace Go.Proofs.YtpfofefecamkfaaGreatDoor
open Go.RowKit

theorem Mst.toY {My:Nat → Prop} {sb mb cb:Nat} {w w':World} (h:Mst (Ms sb mb) w w') (h1:My sb) (h2:My mb):Mst (fun k => My k ∨ k = cb) w w':=h.imp fun _k _ q => .inl (q.elim (fun e => e ▸ h1) (fun e => e ▸ h2))
set_option maxRecDepth 100000 in
set_option maxHeartbeats 8000000 in
theorem catPublish (M My:Nat → Prop) (J:Nat → Sn → World → Prop) (chg:So → Tb → Ch) (fn:Nat) (lb:Array Value) (w:World) (sb mb cb K:Nat) (s:So) (hE:Env M w sb mb K s) (hK:K ≤ 800000) (c:Ct) (hc:CatR w (fun k => ¬ M k) cb sb c) (hok:c.t.ok) (hM:M cb) (h1:cb ≠ sb) (h2:cb ≠ mb)
 (hx1:My sb) (hx2:My mb) (hx3:¬ My cb) (hxM:∀ k,My k → M k)
 (eg:∀ args w,(callFunc fn args).run Tryz.prog w = .ok (.enter fn args) w)
 (hJ:∀ e n W W',J e n W → Mst (Mc sb mb cb) W W' → J e n W') (e0:Nat) (n0:Sn) (hJ0:J e0 n0 w)
 (hchg:∀ W s2 c2 K2 e0 n0,Mst (fun k => My k ∨ k = cb) w W → K2 ≤ 800010 → Env M W sb mb K2 s2 → CatR W (fun k => ¬ M k) cb sb c2 → c2.t.ok → J e0 n0 W → Calls Tryz.prog fn lb W (ChgEnd M My J W sb mb (K2 + 2) (chg s2 c2.t))) :
 Calls Tryz.prog 40 #[.pointer (some ⟨cb,0,none⟩),.func (.func fn) #[] lb] w (PubEnd M My J w sb mb cb (K + 12) (publish chg 3 s c)):=by
 have HST:=hide (And.intro hE (And.intro hc (And.intro hok hJ0)))
 have HJ:=hide hJ
 have HCH:=hide hchg
 have HX1:=hide (And.intro hx1 (And.intro hx2 (And.intro hx3 hxM)))
 have HM:=hide hM
 clear hE hc hok hJ0 hJ hchg hx1 hx2 hx3 hxM hM
 go_enter Tryz.func40,Tryz.ntmps40
 go_wp2_with fail
 go_loopw [10] (fun iv wr => ∃ (i K2 e0:Nat) (s2:So) (c2:Ct) (n0:Sn),iv = .int .i64 (i:Int) ∧ i ≤ 3 ∧ K2 ≤ K + 4 * i ∧ Hid (publish chg 3 s c = publish chg (3 - i) s2 c2) ∧ Hid (Env M wr sb mb K2 s2 ∧ CatR wr (fun k => ¬ M k) cb sb c2 ∧ c2.t.ok ∧ Mst (fun k => My k ∨ k = cb) w wr ∧ J e0 n0 wr)) (fun iv _ => 3 - (intOf iv).toNat)
 case atStart => exact ⟨0,K,e0,s,c,n0,rfl,by omega,by omega,hide rfl,hide ⟨HST.out.1,HST.out.2.1,HST.out.2.2.1,Mst.refl _ _,HST.out.2.2.2⟩⟩
 case round =>
  obtain ⟨i,K2,e1,s2,c2,n1,rfl,hi,hK2,hpub,hst⟩:=hrel
  by_cases hlt:i < 3
  ·obtain ⟨k,hk⟩:∃ k,3 - i = k + 1:=⟨2 - i,by omega⟩
   have hcall:=HCH.out wr s2 c2 K2 e1 n1 hst.out.2.2.2.1 (by omega) hst.out.1 hst.out.2.1 hst.out.2.2.1 hst.out.2.2.2.2
   obtain ⟨h,hh⟩:∃ h,chg s2 c2.t = h:=⟨_,rfl⟩
   rw [hh] at hcall
   have HP:=hide (And.intro (hpub.out.trans (by rw [hk])) hh)
   have HK:=hide hk
   have HOK:=hide hst.out.2.2.1
   clear hpub hh hk
   go_wp2_with fail
   refine hcall.mono ?_
   rintro e w1 ⟨sA,sc,ss,nA,nc,ns,rfl,hT,e1,e2,hE1,hm1,hJ1⟩
   clear hcall
   have hC1:=hst.out.2.1.mst hm1 (fun k hk q => hk (HX1.out.2.2.2 k q)) HX1.out.2.2.1
   have hbA:=(Below.refl w1.heap.size w1).alloc (Nat.le_refl _) (.cells #[.slice sA ss.length sc,.slice nA ns.length nc,.int .u64 (h.t.cur.toNat:Int)] 39)
   have y5:=boxN_new w1 #[.slice sA ss.length sc,.slice nA ns.length nc,.int .u64 (h.t.cur.toNat:Int)] 39
   have hzb:M w1.heap.size → False:=fun q => Nat.lt_irrefl _ (hE1.lt _ q)
   have HE2:=hide (hE1.low hbA)
   have HC2:=hide (hC1.low hbA)
   have HT2:=hide (hT.low hbA)
   have HM2:Hid (Mst (fun k => My k ∨ k = cb) w (w1.alloc (.cells #[.slice sA ss.length sc,.slice nA ns.length nc,.int .u64 (h.t.cur.toNat:Int)] 39))):=hide ((hst.out.2.2.2.1.trans (hm1.imp fun k _ q => .inl q)).trans (Mst.of hbA))
   have HJ2:=hide (HJ.out _ _ _ _ hJ1 (Mst.of hbA))
   have HE12:=hide (And.intro e1 e2)
   clear hT hE1 hm1 hJ1 hC1 hbA e1 e2 hst
   by_cases h0:h.e = 0
   ·have t18:((h.e:Int) != 0) = false:=by rw [h0];rfl
    have hmw:=metaWrite _ sA sc ss nA nc ns h.t.cur.toNat HT2.out.tab HE2.out.tb.crc
    have b0:=y5.cell 0 _ rfl
    have b1:=y5.cell 1 _ rfl
    have b2:=y5.cell 2 _ rfl
    go_upto_region 6 with fail
    generalize w1.alloc (.cells #[.slice sA ss.length sc,.slice nA ns.length nc,.int .u64 (h.t.cur.toNat:Int)] 39) = w2 at *
    generalize w1.heap.size = b5 at *
    have HY:=hide y5
    have H0:=hide h0
    clear y5 h0 t18
    go_wp2_with fail
    refine hmw.mono ?_
    unfold WrEnd
    rw [HE12.out.1,HE12.out.2]
    clear hmw b0 b1 b2
    rintro e w3 (⟨hr,v,rfl,hown,hb⟩ | ⟨hr,rfl,hb⟩)
    ·obtain ⟨vA,vc,rfl⟩:=own_slice hown
     have hE3:=HE2.out.low hb
     have hC3:=HC2.out.low hb
     have hcst:=catStage M w3 sb mb cb (K2 + 2) h.s hE3 (by omega) hC3.c0 ⟨hC3.lt,h1,h2⟩ 116 vA vc (wrS h.t.ss h.t.ns) (.own hown fun j hj _ q => by have:=HE2.out.lt j q;omega)
     have hb5:Hid (b5 < w2.heap.size ∧ ¬ M b5):=hide ⟨HY.out.z,hzb⟩
     have HE3:=hide hE3
     have HC3:=hide hC3
     have HT3:=hide (HT2.out.low hb)
     have HY3:=hide (HY.out.keep hb HY.out.z)
     have HM3:=hide (HM2.out.trans (Mst.of hb))
     have HJ3:=hide (HJ.out _ _ _ _ HJ2.out (Mst.of hb))
     have HR:=hide hr
     obtain ⟨st,hst⟩:∃ st,h.s.stage 116 (wrS h.t.ss h.t.ns) = st:=⟨_,rfl⟩
     have HST:=hide hst
     rw [hst] at hcst
     clear hE3 hC3 hown hb hr hst hzb
     go_wp2_with fail
     refine hcst.mono ?_
     clear hcst
     obtain ⟨s4,nm,e4⟩:=st
     rintro e w4 ⟨rfl,hE4,hm4⟩
     dsimp only at hE4 ⊢
     have hC4:=HC3.out.mst hm4 (fun k hk q => hk (q.elim (fun e => e ▸ hE4.m1) (fun e => e ▸ hE4.m2))) (fun q => q.elim h1 h2)
     obtain ⟨v1,v2,v3,hx4⟩:=hC4.cells
     have HM4:=hide hm4
     have HE4:=hide hE4
     have HC4:=hide hC4
     have k0:=hx4.cell 0 _ rfl
     have k4:=hx4.cell 4 _ rfl
     clear hm4 hE4 hC4 hx4
     obtain ⟨q,hq⟩:∃ q,(if e4 = 0 then s4.swap c2.nm nm else (s4,e4)) = q:=⟨_,rfl⟩
     have HQ:=hide hq
     go_upto_if 35 with fail
     go_cut [6] from 36 to 64 (fun v6 wx => v6 = .int .i64 (q.2:Int) ∧ Hid (Env M wx sb mb (K2 + 2 + 2) q.1 ∧ Mst (Ms sb mb) w4 wx))
     case first =>
      by_cases h4:e4 = 0
      ·subst h4
       rw [if_pos rfl] at hq
       obtain ⟨N,hN,hS⟩:=HE4.out.st
       have hsw:=objSwap _ w4.drew sb mb N s4 hS.drew c2.nm nm
       rw [hq] at hsw
       clear hS hq
       go_upto_region 11 with fail
       go_still_tail 9,(by kernel_rfl)
       go_wp2_with fail
       refine hsw.mono ?_
       rintro e w5 ⟨rfl,hS5,O5⟩
       go_wp2_with fail
       go_meet
       exact ⟨rfl,hide ⟨(HE4.out.low ((Below.refl _ _).drew)).on hS5 hN O5 (by rw [← HQ.out];exact fit_swap HE4.out.fit _ _),(Mst.of ((Below.refl _ _).drew)).trans (.ost O5)⟩⟩
      ·rw [if_neg h4] at hq
       have t35:((e4:Int) == 0) = false:=by rw [beq_eq_false_iff_ne];omega
       have HQ2:=hide hq
       clear hq h4 k0 k4
       go_wp2_with fail
       go_meet
       exact ⟨by rw [← HQ2.out],hide ⟨by rw [← HQ2.out];exact HE4.out,Mst.refl _ _⟩⟩
     case rest =>
      obtain ⟨rfl,hx⟩:=hcut
      have HT:=hide (try_c HP.out.2 H0.out HR.out HST.out hq)
      have hm5:Mst (Ms sb mb) w3 wc:=HM4.out.trans hx.out.2
      have hPM:∀ k,¬ M k → ¬ Ms sb mb k:=fun k hk q => hk (q.elim (fun e => e ▸ HE4.out.m1) (fun e => e ▸ HE4.out.m2))
      have hcM:¬ Ms sb mb cb:=fun q => q.elim h1 h2
      have y5c:=hm5.box HY3.out (hPM b5 hb5.out.2)
      have HT5:=hide (HT3.out.mst hm5 hPM)
      have hC5:=HC4.out.mst hx.out.2 hPM hcM
      have HJ5:=hide (HJ.out _ _ _ _ HJ3.out (Mst.toC (cb:=cb) hm5))
      have HM5:=hide (HM3.out.trans (Mst.toY (cb:=cb) hm5 HX1.out.1 HX1.out.2.1))
      have HC5:=hide hC5
      clear hq k0 k4 hm5 hPM hcM hC5
      by_cases hq0:q.2 = 0
      ·have t47:((q.2:Int) == 0) = true:=by rw [hq0];rfl
       have HG:Hid (publish chg 3 s c = ⟨q.1,⟨h.t,nm⟩,0,false,h.n⟩):=hide (by
        have e:=HT.out.trans (try3_a hq0)
        rw [HP.out.1,pub_done (by rw [e]),e])
       clear hq0
       obtain ⟨v1,v2,v3,hx5⟩:=HC5.out.cells
       have b0:=y5c.cell 0 _ rfl
       have b1:=y5c.cell 1 _ rfl
       have b2:=y5c.cell 2 _ rfl
       have d1:=hx5.cell 1 _ rfl
       have d2:=hx5.cell 2 _ rfl
       have d3:=hx5.cell 3 _ rfl
       have d4:=hx5.cell 4 _ rfl
       have f1:=hx5.free 1 (by simp)
       have f2:=hx5.free 2 (by simp)
       have f3:=hx5.free 3 (by simp)
       have f4:=hx5.free 4 (by simp)
       clear y5c hx5
       go_wp2_with fail
       go_ret
       rw [HG.out]
       have o:=oth_put wc cb (.slice sA ss.length sc) (.slice nA ns.length nc) (.int .u64 (h.t.cur.toNat:Int)) (.string nm)
       exact ⟨rfl,(hx.out.1.more (by omega)).oth o HM.out h1 h2,HC5.out.put HM.out HT5.out HE12.out.1 HE12.out.2,HR.out,HM5.out.trans (Mst.ofOth (M:=fun k => My k ∨ k = cb) o (.inr rfl)),_,_,HJ.out _ _ _ _ HJ5.out (Mst.ofOth (M:=Mc sb mb cb) o (.inr (.inr rfl))),fun _ => ⟨H0.out,rfl⟩⟩
      ·have t47:((q.2:Int) == 0) = false:=by rw [beq_eq_false_iff_ne];omega
       clear y5c
       by_cases hq1:q.2 = 123
       ·have t57:((q.2:Int) != 123) = false:=by rw [hq1];rfl
        have hrf:=catRefresh M wc sb mb cb (K2 + 2 + 2) q.1 hx.out.1 c2 HC5.out HM.out h1 h2
        have HQ1:=hide hq1
        clear hq0 hq1
        go_wp2_with fail
        refine hrf.mono ?_
        clear hrf
        obtain ⟨r,hr⟩:∃ r,q.1.refresh c2 = r:=⟨_,rfl⟩
        have hok6:=refresh_ok (s:=q.1) HOK.out
        rw [hr] at hok6 ⊢
        have HRF:=hide (And.intro hr hok6)
        clear hr hok6
        rintro e w6 ⟨rfl,hE6,hC6,hm6⟩
        have HF:=hide (And.intro hE6 (And.intro hC6 hm6))
        clear hE6 hC6 hm6
        have HJ6:=hide (HJ.out _ _ _ _ HJ5.out (HF.out.2.2.imp (N:=Mc sb mb cb) fun k _ q => .inr (.inr q)))
        have HM6:=hide (HM5.out.trans (HF.out.2.2.imp (N:=fun k => My k ∨ k = cb) fun k _ q => .inr q))
        by_cases hr0:r.2 = 0
        ·have t62:((r.2:Int) != 0) = false:=by rw [hr0];rfl
         have HG:Hid (publish chg 3 s c = publish chg k q.1 r.1):=hide (by
          have e:=HT.out.trans (try3_d HQ1.out (by rw [HRF.out.1];exact hr0))
          rw [HRF.out.1] at e
          rw [HP.out.1,pub_on (by rw [e]),e])
         clear hr0
         go_wp2_with fail
         go_roundw
         case rel => exact ⟨i + 1,K2 + 2 + 2,h.e,q.1,r.1,h.n,by go_num,by omega,by omega,hide (HG.out.trans (by rw [show 3 - (i + 1) = k by have:=HK.out;omega])),hide ⟨HF.out.1,HF.out.2.1,HRF.out.2,HM6.out,HJ6.out⟩⟩
         case measure => simp [intOf];omega
        ·have t62:((r.2:Int) != 0) = true:=by rw [bne_iff_ne];omega
         have HG:Hid (publish chg 3 s c = ⟨q.1,c2,r.2,false,h.n⟩):=hide (by
          have e:=HT.out.trans (try3_c HQ1.out (by rw [HRF.out.1];exact hr0))
          rw [HRF.out.1] at e
          rw [HP.out.1,pub_done (by rw [e]),e])
         have HRC:Hid (r.1 = c2):=hide (by have h:=rf_same (s:=q.1) (c:=c2) (by rw [HRF.out.1];exact hr0);rw [HRF.out.1] at h;exact h)
         have HR0:=hide hr0
         clear hr0
         go_wp2_with fail
         go_ret
         rw [HG.out]
         exact ⟨rfl,HF.out.1.more (by omega),by have h:=HF.out.2.1;rw [HRC.out] at h;exact h,HOK.out,HM6.out,_,_,HJ6.out,fun q => absurd q HR0.out⟩
       ·have t57:((q.2:Int) != 123) = true:=by rw [bne_iff_ne];omega
        have HG:Hid (publish chg 3 s c = ⟨q.1,c2,q.2,false,h.n⟩):=hide (by
         have e:=HT.out.trans (try3_b hq0 hq1)
         rw [HP.out.1,pub_done (by rw [e]),e])
        have HQ0:=hide hq0
        clear hq0 hq1
        go_wp2_with fail
        go_ret
        rw [HG.out]
        exact ⟨rfl,hx.out.1.more (by omega),HC5.out,HOK.out,HM5.out,_,_,HJ5.out,fun q => absurd q HQ0.out⟩
    ·have HG:=hide (pub_b (k:=k) HP.out.2 H0.out hr)
     go_wp2_with fail
     go_ret
     rw [HP.out.1,HG.out]
     exact ⟨rfl,(HE2.out.low hb).more (by omega),HC2.out.low hb,HOK.out,HM2.out.trans (Mst.of hb),_,_,HJ.out _ _ _ _ HJ2.out (Mst.of hb),fun q => absurd q (show ¬ 1 = 0 by decide)⟩
   ·have t18:((h.e:Int) != 0) = true:=by rw [bne_iff_ne];omega
    have HG:=hide (pub_a (k:=k) HP.out.2 h0)
    have H0:=hide h0
    clear y5 h0
    go_wp2_with fail
    go_ret
    rw [HP.out.1,HG.out]
    exact ⟨rfl,HE2.out.more (by omega),HC2.out,HOK.out,HM2.out,_,_,HJ2.out,fun q => absurd q H0.out⟩
  ·have h3:i = 3:=by omega
   subst h3
   have HG:Hid (publish chg 3 s c = ⟨s2,c2,123,false,default⟩):=hide (hpub.out.trans rfl)
   clear hpub hlt
   go_wp2_with fail
   go_ret
   rw [HG.out]
   exact ⟨rfl,hst.out.1.more (by omega),hst.out.2.1,hst.out.2.2.1,hst.out.2.2.2.1,e1,n1,hst.out.2.2.2.2,fun q => absurd q (show ¬ 123 = 0 by decide)⟩
end Go.Proofs.YtpfofefecamkfaaGreatDoor
