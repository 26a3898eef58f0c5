/- WHAT SERVES THE TABLES' STATEMENTS, part 13: MetaV. No statement of the seat is proved here. -/
import Derived.Test.YtpfofefecamkfaaGreatDoorG12
import Derived.Test.YtpfofefecamkfaaGreatDoorG7
import Derived.Deep.RegionLaw
import Derived.Deep.CutRange
import Derived.Laws.IdiomRangeMap
namespace Go.Proofs.YtpfofefecamkfaaGreatDoor

section
open Go.RowKit

def GrowEnd (w:World) (ss:List Ps) (ns:List Sn) (cur:Nat) (s:Ps):Ending → World → Prop :=
 if growErr ss ns cur s = 0 then StepEnd w 0 (ss ++ [s]) ns cur else StepEnd w (growErr ss ns cur s) [] [] 0
theorem grow_lit {w6 w5:World} {B b2 b3 b6 sc nc:Nat} {sA nA:Option Addr} {ss:List Sl} {ns:List Nl} {sid:UInt32} {sfs:List Fd} {A6:Option Addr} {c6:Nat} {cs2 cs3 cs6:List Value} (O:OwnT w6 B sA sc ss nA nc ns) (h6:w6.ownsRow w5.heap.size 89 4 (.slice A6 sfs.length c6) sfs.length (fdsV sfs)) (hB:B ≤ w5.heap.size) (hsz:w5.heap.size ≤ w6.heap.size) (X6:BoxT w6 b6 cs6 39) (X2:BoxN w6 b2 cs2) (X3:BoxN w6 b3 cs3) :
 OwnT (w6.alloc (.cells #[.int .u32 (sid.toNat:Int),.slice A6 sfs.length c6] 33)) B sA sc ss nA nc ns ∧ (∀ j u,(slV ⟨sid,sfs,A6,c6⟩)[j]? = some u → (w6.alloc (.cells #[.int .u32 (sid.toNat:Int),.slice A6 sfs.length c6] 33)).cell? ((⟨w6.heap.size,0,none⟩:Addr).add j) = some u) ∧ B ≤ (w6.alloc (.cells #[.int .u32 (sid.toNat:Int),.slice A6 sfs.length c6] 33)).heap.size ∧
  (w6.alloc (.cells #[.int .u32 (sid.toNat:Int),.slice A6 sfs.length c6] 33)).ownsRow B 89 4 (.slice A6 sfs.length c6) sfs.length (fdsV sfs) ∧ BoxT (w6.alloc (.cells #[.int .u32 (sid.toNat:Int),.slice A6 sfs.length c6] 33)) b6 cs6 39 ∧ BoxN (w6.alloc (.cells #[.int .u32 (sid.toNat:Int),.slice A6 sfs.length c6] 33)) b2 cs2 ∧ BoxN (w6.alloc (.cells #[.int .u32 (sid.toNat:Int),.slice A6 sfs.length c6] 33)) b3 cs3:=by
 have hb:=(Below.refl w6.heap.size w6).alloc (Nat.le_refl _) (.cells #[.int .u32 (sid.toNat:Int),.slice A6 sfs.length c6] 33)
 have y6:=boxN_new w6 #[.int .u32 (sid.toNat:Int),.slice A6 sfs.length c6] 33
 refine ⟨O.keep hb,fun j u hu => ?_,by have:=hb.size;omega,(own_base h6 hB).alloc _,X6.keep hb,X2.keep hb X2.z,X3.keep hb X3.z⟩
 have:=y6.cell j u hu
 rw [Addr.add_lit,Nat.zero_add]
 exact this
theorem grow_after {w7 w8:World} {B b2 b3 b6 sc nc g cap:Nat} {sA nA:Option Addr} {ss:List Sl} {ns:List Nl} {sid:UInt32} {sfs:List Fd} {A6:Option Addr} {c6:Nat} {cs2 cs3 cs6:List Value} (O:OwnT w7 B sA sc ss nA nc ns) (h6:w7.ownsRow B 89 4 (.slice A6 sfs.length c6) sfs.length (fdsV sfs)) (X6:BoxT w7 b6 cs6 39) (X2:BoxN w7 b2 cs2) (X3:BoxN w7 b3 cs3)
 (hown:w8.ownsRow B 33 2 (.slice (some ⟨g,0,none⟩) (ss.length + 1) cap) (ss.length + 1) (slsV ss ++ slV ⟨sid,sfs,A6,c6⟩)) (hg:w7.grownBy w8 (Value.slice sA ss.length sc).ownBlock) (h2:b2 < B) (h3:b3 < B) (hsz:B ≤ w7.heap.size) :
 OwnT w8 B (some ⟨g,0,none⟩) cap (ss ++ [⟨sid,sfs,A6,c6⟩]) nA nc ns ∧ BoxT w8 b6 cs6 39 ∧ BoxN w8 b2 cs2 ∧ BoxN w8 b3 cs3 ∧ Below B w7 w8:=by
 have hb:Below B w7 w8:=below_app (Below.refl _ _) (Nat.le_refl _) O.sown hg hsz
 obtain ⟨g',cap',q,O8⟩:=O.snocS (s:=⟨sid,sfs,A6,c6⟩) h6 hown hg
 injection q with q1 q2 q3
 injection q1 with q1
 injection q1 with q1
 subst q1 q3
 exact ⟨O8,X6.grown O.sown hg (by decide),X2.keep hb h2,X3.keep hb h3,hb⟩
theorem grow_leaf {w w7 w8:World} {B b1 b2 b3 b6 nc cap g:Nat} {nA:Option Addr} {ss:List Sl} {ns:List Nl} {s:Sl} {v0 v1 v2:Value} {cs2 cs3:List Value} (hap:OwnT w8 B (some ⟨g,0,none⟩) cap (ss ++ [s]) nA nc ns ∧ BoxT w8 b6 #[v0,v1,v2].toList 39 ∧ BoxN w8 b2 cs2 ∧ BoxN w8 b3 cs3 ∧ Below B w7 w8) (hB:Below b1 w w7) (h1:b1 ≤ B) (h6:B ≤ b6) (h3:b3 < B) :
 ∃ g' cap' sd',sd'.map plS = ss.map plS ++ [plS s] ∧ BoxT (w8.setCell ⟨b6,0,none⟩ (.slice (some ⟨g,0,none⟩) (ss.length + 1) cap)) b6 #[.slice (some ⟨g',0,none⟩) sd'.length cap',v1,v2].toList 39 ∧ OwnT (w8.setCell ⟨b6,0,none⟩ (.slice (some ⟨g,0,none⟩) (ss.length + 1) cap)) B (some ⟨g',0,none⟩) cap' sd' nA nc ns ∧ BoxN (w8.setCell ⟨b6,0,none⟩ (.slice (some ⟨g,0,none⟩) (ss.length + 1) cap)) b3 cs3 ∧ Below b1 w (w8.setCell ⟨b6,0,none⟩ (.slice (some ⟨g,0,none⟩) (ss.length + 1) cap)):=by
 obtain ⟨O,X6,_,X3,hb⟩:=hap
 have X6a:=X6.set (j:=0) (.slice (some ⟨g,0,none⟩) (ss.length + 1) cap) rfl
 have hne:b6 ≠ b3:=by omega
 refine ⟨g,cap,ss ++ [s],by simp,?_,O.setT X6 _ _,X3.else (p:=⟨b6,0,none⟩) hne _,?_⟩
 ·have e1:(ss ++ [s]).length = ss.length + 1:=by simp
  rw [e1]
  exact X6a
 ·exact (hB.trans (hb.mono h1)).setCell (p:=⟨b6,0,none⟩) (show b1 ≤ b6 by omega) _
set_option maxRecDepth 100000 in
set_option maxHeartbeats 4000000 in
theorem metaGrow (w:World) (sA:Option Addr) (sc:Nat) (ss:List Sl) (nA:Option Addr) (nc:Nat) (ns:List Nl) (cur:Nat) (hT:TabR w w.heap.size sA sc ss nA nc ns) (h1:ss.length ≤ 1000000) (h2:∀ s ∈ ss,s.fs.length ≤ 1000000) (h3:ns.length ≤ 1000000) (h4:∀ s ∈ ns,s.p.ms.length ≤ 1000000)
 (sid:UInt32) (sfs:List Fd) (fA:Option Addr) (fc:Nat) (hrp:Rd w w.heap.size 4 fA sfs.length fc (fdsV sfs)) (hpm:sfs.length ≤ 1000000) :
 Calls Tryz.prog 92 #[.agg #[.slice sA ss.length sc,.slice nA ns.length nc,.int .u64 (cur:Int)],.agg #[.int .u32 (sid.toNat:Int),.slice fA sfs.length fc]] w (GrowEnd w (ss.map plS) (ns.map plN) cur (sid,sfs)):=by
 by_cases g32:16 ≤ ss.length
 ·have t1:decide ((16:Int) ≤ (ss.length:Int)) = true:=decide_eq_true (by omega)
  have hpe:growErr (ss.map plS) (ns.map plN) cur (sid,sfs) = 4:=by unfold growErr;rw [if_pos (by rw [List.length_map];exact g32)]
  unfold GrowEnd
  rw [hpe,if_neg (by decide)]
  clear g32 hpe
  go_enter Tryz.func92,Tryz.ntmps92
  go_wp2_with fail
  (try simp only [Exit.inBlock,Exit.then])
  have hb1:=(Below.refl w.heap.size w).alloc (Nat.le_refl _) (.cells #[.slice sA ss.length sc,.slice nA ns.length nc,.int .u64 (cur:Int)] 39)
  have hz1:(w.alloc (.cells #[.slice sA ss.length sc,.slice nA ns.length nc,.int .u64 (cur:Int)] 39)).heap.size = w.heap.size + 1:=by simp
  generalize w.alloc (.cells #[.slice sA ss.length sc,.slice nA ns.length nc,.int .u64 (cur:Int)] 39) = w1 at *
  have hb2:=hb1.alloc hb1.size (.cells #[.int .u32 (sid.toNat:Int),.slice fA sfs.length fc] 33)
  have hz2:(w1.alloc (.cells #[.int .u32 (sid.toNat:Int),.slice fA sfs.length fc] 33)).heap.size = w1.heap.size + 1:=by simp
  generalize w1.alloc (.cells #[.int .u32 (sid.toNat:Int),.slice fA sfs.length fc] 33) = w2 at *
  have x3:=boxN_new w2 #[.slice none 0 0,.slice none 0 0,.int .u64 0] 39
  have hb3:=hb2.alloc hb2.size (.cells #[.slice none 0 0,.slice none 0 0,.int .u64 0] 39)
  rw [← hz1, ← hz2]
  refine bodyPost_ret (ret_tb2 (b:=w2.heap.size) rfl _ _ rfl x3) rfl ?_
  exact step_bad w _ 4 hb3
 have t1:decide ((16:Int) ≤ (ss.length:Int)) = false:=decide_eq_false (by omega)
 obtain ⟨P',hP'⟩:∃ P',P' = GrowEnd w (ss.map plS) (ns.map plN) cur (sid,sfs):=⟨_,rfl⟩
 rw [← hP']
 have HP:=hide hP'
 have H32:=hide g32
 clear g32 hP'
 go_enter Tryz.func92,Tryz.ntmps92
 go_wp2_with fail
 have hb1:=(Below.refl w.heap.size w).alloc (Nat.le_refl _) (.cells #[.slice sA ss.length sc,.slice nA ns.length nc,.int .u64 (cur:Int)] 39)
 have x1:=boxN_new w #[.slice sA ss.length sc,.slice nA ns.length nc,.int .u64 (cur:Int)] 39
 have hz1:(w.alloc (.cells #[.slice sA ss.length sc,.slice nA ns.length nc,.int .u64 (cur:Int)] 39)).heap.size = w.heap.size + 1:=by simp
 generalize w.alloc (.cells #[.slice sA ss.length sc,.slice nA ns.length nc,.int .u64 (cur:Int)] 39) = w1 at *
 have x2:=boxN_new w1 #[.int .u32 (sid.toNat:Int),.slice fA sfs.length fc] 33
 have hb2:=(Below.refl w1.heap.size w1).alloc (Nat.le_refl _) (.cells #[.int .u32 (sid.toNat:Int),.slice fA sfs.length fc] 33)
 have hz2:(w1.alloc (.cells #[.int .u32 (sid.toNat:Int),.slice fA sfs.length fc] 33)).heap.size = w1.heap.size + 1:=by simp
 have x1b:=x1.keep hb2 x1.z
 have hB2:=below_call hb1 hb1.size hb2
 generalize w1.alloc (.cells #[.int .u32 (sid.toNat:Int),.slice fA sfs.length fc] 33) = w2 at *
 have x3:=boxN_new w2 #[.slice none 0 0,.slice none 0 0,.int .u64 0] 39
 have hb3:=(Below.refl w2.heap.size w2).alloc (Nat.le_refl _) (.cells #[.slice none 0 0,.slice none 0 0,.int .u64 0] 39)
 have x1c:=x1b.keep hb3 x1b.z
 have x2c:=x2.keep hb3 x2.z
 have hB3:=below_call hB2 hB2.size hb3
 generalize w2.alloc (.cells #[.slice none 0 0,.slice none 0 0,.int .u64 0] 39) = w3 at *
 have hT3:=hT.later hB3
 have hrp3:=(hrp.below hB3).more hB3.size
 rw [← hz1, ← hz2]
 have z12:w.heap.size < w1.heap.size:=by omega
 have z23:w1.heap.size < w2.heap.size:=by omega
 have z34:w2.heap.size < w3.heap.size:=x3.z
 generalize hb1e:w.heap.size = b1 at *
 generalize w1.heap.size = b2 at *
 generalize w2.heap.size = b3 at *
 have H1:=hide hb1e
 clear hz1 hz2 hb1 hb2 hb3 x1 x1b x2 hB2 hT hrp hb1e t1
 refine (metaCopied w3 sA sc ss nA nc ns cur hT3 h1 h2 h3 h4).mono ?_
 rintro e w4 ⟨oA,oc,sd,pA',pc',nd,rfl,O4,hps,hpn,hb4⟩
 have X2:=x2c.keep hb4 x2c.z
 have X3:=x3.keep hb4 x3.z
 have hrp4:=(hrp3.below hb4).more hb4.size
 have hB4:Below b1 w w4:=hB3.trans (hb4.mono (by omega))
 have hw4:w3.heap.size ≤ w4.heap.size:=hb4.size
 have HNL:Hid (sd.length = ss.length):=hide (by have:=congrArg List.length hps;simpa using this)
 have HPS:=hide (And.intro hps hpn)
 clear x1c x2c x3 hT3 hrp3 hb4 hB3 hps hpn
 go_wp2_with fail
 have y:=boxT_new w4 #[.slice oA sd.length oc,.slice pA' nd.length pc',.int .u64 (cur:Int)] 39
 have hbA:=(Below.refl w4.heap.size w4).alloc (Nat.le_refl _) (.cells #[.slice oA sd.length oc,.slice pA' nd.length pc',.int .u64 (cur:Int)] 39)
 have X2b:=X2.keep hbA X2.z
 have X3b:=X3.keep hbA X3.z
 have O5:=O4.keep hbA
 have hrp5:=(hrp4.below hbA).more hbA.size
 have hB5:Below b1 w _:=below_call hB4 (show b1 ≤ w4.heap.size by omega) hbA
 have z45:w4.heap.size < (w4.alloc (.cells #[.slice oA sd.length oc,.slice pA' nd.length pc',.int .u64 (cur:Int)] 39)).heap.size:=by simp
 generalize w4.alloc (.cells #[.slice oA sd.length oc,.slice pA' nd.length pc',.int .u64 (cur:Int)] 39) = w5 at *
 generalize w4.heap.size = b6 at *
 clear X2 X3 O4 hrp4 hB4 hbA
 have u0:=X2b.cell 0 _ rfl
 have u1:=X2b.cell 1 _ rfl
 have o1:=y.bx.cell 0 _ rfl
 have hw5:w3.heap.size ≤ w5.heap.size:=by omega
 have z2:b2 < w5.heap.size:=X2b.z
 have HY:=hide (And.intro y (And.intro O5 (And.intro X2b X3b)))
 obtain ⟨ti,hti,hti1,hti2,hti3⟩:=info_parts tySchs.inf
 have hn6:sd.length ≤ 1000000:=by have:=HNL.out;omega
 clear y O5 X2b X3b
 go_cut [] from 14 to 25 (fun wx => ∃ g cap sd',sd'.map plS = sd.map plS ++ [(sid,sfs)] ∧ BoxT wx b6 #[.slice (some ⟨g,0,none⟩) sd'.length cap,.slice pA' nd.length pc',.int .u64 (cur:Int)].toList 39 ∧ OwnT wx w3.heap.size (some ⟨g,0,none⟩) cap sd' pA' pc' nd ∧ BoxN wx b3 [.slice none 0 0,.slice none 0 0,.int .u64 0] ∧ Below b1 w wx)
 case first =>
  rename_i J K1 hJ hK1
  have q15:b1 ≤ w5.heap.size:=by omega
  have q13:b1 ≤ w3.heap.size:=by omega
  have hne:b6 ≠ b2:=by omega
  refine wp_region_held_drew (S:=fun w' => BoxN w' b2 [.int .u32 (sid.toNat:Int),.slice fA sfs.length fc]) (by kernel_rfl) ?_ (fun hHeld => ?_)
  ·exact ⟨HY.out.2.2.1.cell,HY.out.2.2.1.free,HY.out.2.2.1.z⟩
  refine wpAnyH_take (i:=0) (v:=?_) rfl (by kernel_rfl) (by kernel_rfl) (by kernel_rfl) (fun _ _ _ h => h) (Or.inl ⟨by rfl,?_⟩) hHeld ?_
  rotate_left 1
  ·(intro w hSw;go_simp;first | done | with_reducible rfl)
  (try simp only [Act.put,zA0])
  refine wpAnyH_take (i:=2) (v:=?_) rfl (by kernel_rfl) (by kernel_rfl) (by kernel_rfl) (fun _ _ _ h => h) (Or.inl ⟨by rfl,?_⟩) hHeld ?_
  rotate_left 1
  ·(intro w hSw;go_simp;first | done | with_reducible rfl)
  (try simp only [Act.put])
  refine wpAnyH_take (i:=3) (v:=?_) rfl (by kernel_rfl) (by kernel_rfl) (by kernel_rfl) (fun _ _ _ h => h) (Or.inl ⟨by rfl,?_⟩) hHeld ?_
  rotate_left 1
  ·(intro w hSw;have q0:=hSw.cell 0 _ rfl;have q1:=hSw.cell 1 _ rfl;go_simp;first | done | with_reducible rfl)
  (try simp only [Act.put])
  refine wpAnyH_take (i:=4) (v:=?_) rfl (by kernel_rfl) (by kernel_rfl) (by kernel_rfl) (fun _ _ _ h => h) (Or.inl ⟨by rfl,?_⟩) hHeld ?_
  rotate_left 1
  ·(intro w hSw;go_simp;first | done | with_reducible rfl)
  (try simp only [Act.put])
  refine wpAnyH_take (i:=5) (v:=?_) rfl (by kernel_rfl) (by kernel_rfl) (by kernel_rfl) (fun _ _ _ h => h) (Or.inl ⟨by rfl,?_⟩) hHeld ?_
  rotate_left 1
  ·(intro w hSw;have q0:=hSw.cell 0 _ rfl;have q1:=hSw.cell 1 _ rfl;go_simp;first | done | with_reducible rfl)
  (try simp only [Act.put])
  refine wpAnyH_ready (rs:=[1,6]) (by kernel_rfl) (by simp) ?_
  refine AllReadyH.cons rfl (fun K hK => ?_) (AllReadyH.cons rfl (fun K hK => ?_) (AllReadyH.nil))
  ·go_simp
   refine hK.out _ _ hHeld (fun hHeld => ?_)
   clear hK K
   (try simp only [Act.put,zA0,zB0,zC0])
   refine wpAnyH_ready (rs:=[6]) (by kernel_rfl) (by simp) ?_
   refine AllReadyH.cons rfl (fun K hK => ?_) (AllReadyH.nil)
   ·go_simp
    go_at_call 84
    refine (cloneF w5.drew w5.heap.size sfs.length fc fA (fdsV sfs) hrp5.drew (fdsV_one _) (by omega) (Nat.le_refl _)).mono ?_
    rintro e w6 ⟨vv,rfl,hown6,hb6⟩
    obtain ⟨A6,c6,rfl⟩:=own_slice hown6
    have hb6':=below_of_drew hb6
    have X2d:=HY.out.2.2.1.keep hb6' z2
    have o1d:=(HY.out.1.keep hb6').bx.cell 0 _ rfl
    have hbL:=(Below.refl w6.heap.size w6).alloc (Nat.le_refl _) (.cells #[.int .u32 (sid.toNat:Int),.slice A6 sfs.length c6] 33)
    have HL:=hide (grow_lit (sid:=sid) (HY.out.2.1.keep hb6') hown6 hw5 hb6'.size (HY.out.1.keep hb6') (HY.out.2.2.1.keep hb6' z2) (HY.out.2.2.2.keep hb6' HY.out.2.2.2.z))
    have l1':=((HY.out.1.keep hb6').keep hbL).bx.cell 0 _ rfl
    clear hbL hown6 hb6
    dsimp only
    refine hK.out _ _ X2d (fun hHeld => ?_)
    clear hK K
    (try simp only [Act.put,zA0,zB0,zC0])
    refine wpAnyH_take (i:=7) (v:=?_) rfl (by kernel_rfl) (by kernel_rfl) (by kernel_rfl) (fun _ _ _ h => h) (Or.inl ⟨by rfl,?_⟩) hHeld ?_
    rotate_left 1
    ·(intro w hSw;go_simp;first | done | with_reducible rfl)
    (try simp only [Act.put,zA0])
    refine wpAnyH_ready (rs:=[8]) (by kernel_rfl) (by simp) ?_
    refine AllReadyH.cons rfl (fun K hK => ?_) (AllReadyH.nil)
    ·go_simp
     refine hK.out _ _ HL.out.2.2.2.2.2.1 (fun hHeld => ?_)
     clear hK K
     (try simp only [Act.put,zA0,zB0,zC0])
     refine wpAnyH_ready (rs:=[9]) (by kernel_rfl) (by simp) ?_
     refine AllReadyH.cons rfl (fun K hK => ?_) (AllReadyH.nil)
     ·refine step_append_lies _ rfl (.tmp 15) (.tmp 22) 36 rfl w3.heap.size 33 ti _ 2 32 Tryz.underlying36 hti hti1 hti2 hti3 tySchs.zs (by decide) _ sd.length (slsV sd) (by simp [Act.eval]) HL.out.1.sown _ 1 1 (slV ⟨sid,sfs,A6,c6⟩) (by simp [Act.eval]) rfl HL.out.2.1 (slV_one _) (by omega) (by unfold maxLen <;> omega) (by omega) HL.out.2.2.1 _ rfl ?_
      intro g cap w8 hown8 hg8 _ _
      have hap:=grow_after HL.out.1 HL.out.2.2.2.1 HL.out.2.2.2.2.1 HL.out.2.2.2.2.2.1 HL.out.2.2.2.2.2.2 hown8 hg8 (Nat.lt_trans z23 z34) z34 HL.out.2.2.1
      have HAP:=hide hap
      have o1e:=HAP.out.2.1.bx.cell 0 _ rfl
      have f1e:=HAP.out.2.1.bx.free 0 (by simp)
      clear hown8 hg8 hap
      refine hK.out _ _ HAP.out.2.2.1 (fun hHeld => ?_)
      clear hK K
      (try simp only [Act.put,zA0])
      refine wpAnyH_take (i:=10) (v:=?_) rfl (by kernel_rfl) (by kernel_rfl) (by kernel_rfl) (fun _ _ _ h => h) (Or.inl ⟨by rfl,?_⟩) hHeld ?_
      rotate_left 1
      ·(intro w hSw;go_simp;first | done | with_reducible rfl)
      (try simp only [Act.put])
      refine wpAnyH_ready (rs:=[11]) (by kernel_rfl) (by simp) ?_
      refine AllReadyH.cons rfl (fun K hK => ?_) (AllReadyH.nil)
      ·go_simp
       refine hK.out _ _ (HAP.out.2.2.1.else (p:=⟨b6,0,none⟩) hne _) (fun hHeld => ?_)
       clear hK K
       (try simp only [Act.put,zA0,zB0,zC0])
       refine wpAnyH_done (by kernel_rfl) ?_ _
       refine hK1 _ _ ?_
       go_meet
       exact grow_leaf HAP.out (below_call (hB5.trans (hb6'.mono q15)) (Nat.le_trans q15 hb6'.size) ((Below.refl w6.heap.size w6).alloc (Nat.le_refl _) _)) q13 hw4 z34
  ·go_simp
   go_at_call 84
   refine (cloneF w5.drew w5.heap.size sfs.length fc fA (fdsV sfs) hrp5.drew (fdsV_one _) (by omega) (Nat.le_refl _)).mono ?_
   rintro e w6 ⟨vv,rfl,hown6,hb6⟩
   obtain ⟨A6,c6,rfl⟩:=own_slice hown6
   have hb6':=below_of_drew hb6
   have X2d:=HY.out.2.2.1.keep hb6' z2
   have o1d:=(HY.out.1.keep hb6').bx.cell 0 _ rfl
   have hbL:=(Below.refl w6.heap.size w6).alloc (Nat.le_refl _) (.cells #[.int .u32 (sid.toNat:Int),.slice A6 sfs.length c6] 33)
   have HL:=hide (grow_lit (sid:=sid) (HY.out.2.1.keep hb6') hown6 hw5 hb6'.size (HY.out.1.keep hb6') (HY.out.2.2.1.keep hb6' z2) (HY.out.2.2.2.keep hb6' HY.out.2.2.2.z))
   have l1':=((HY.out.1.keep hb6').keep hbL).bx.cell 0 _ rfl
   clear hbL hown6 hb6
   dsimp only
   refine hK.out _ _ X2d (fun hHeld => ?_)
   clear hK K
   (try simp only [Act.put,zA0,zB0,zC0])
   refine wpAnyH_take (i:=7) (v:=?_) rfl (by kernel_rfl) (by kernel_rfl) (by kernel_rfl) (fun _ _ _ h => h) (Or.inl ⟨by rfl,?_⟩) hHeld ?_
   rotate_left 1
   ·(intro w hSw;go_simp;first | done | with_reducible rfl)
   (try simp only [Act.put,zA0])
   refine wpAnyH_ready (rs:=[1,8]) (by kernel_rfl) (by simp) ?_
   refine AllReadyH.cons rfl (fun K hK => ?_) (AllReadyH.cons rfl (fun K hK => ?_) (AllReadyH.nil))
   ·go_simp
    refine hK.out _ _ hHeld (fun hHeld => ?_)
    clear hK K
    (try simp only [Act.put,zA0,zB0,zC0])
    refine wpAnyH_ready (rs:=[8]) (by kernel_rfl) (by simp) ?_
    refine AllReadyH.cons rfl (fun K hK => ?_) (AllReadyH.nil)
    ·go_simp
     refine hK.out _ _ HL.out.2.2.2.2.2.1 (fun hHeld => ?_)
     clear hK K
     (try simp only [Act.put,zA0,zB0,zC0])
     refine wpAnyH_ready (rs:=[9]) (by kernel_rfl) (by simp) ?_
     refine AllReadyH.cons rfl (fun K hK => ?_) (AllReadyH.nil)
     ·refine step_append_lies _ rfl (.tmp 15) (.tmp 22) 36 rfl w3.heap.size 33 ti _ 2 32 Tryz.underlying36 hti hti1 hti2 hti3 tySchs.zs (by decide) _ sd.length (slsV sd) (by simp [Act.eval]) HL.out.1.sown _ 1 1 (slV ⟨sid,sfs,A6,c6⟩) (by simp [Act.eval]) rfl HL.out.2.1 (slV_one _) (by omega) (by unfold maxLen <;> omega) (by omega) HL.out.2.2.1 _ rfl ?_
      intro g cap w8 hown8 hg8 _ _
      have hap:=grow_after HL.out.1 HL.out.2.2.2.1 HL.out.2.2.2.2.1 HL.out.2.2.2.2.2.1 HL.out.2.2.2.2.2.2 hown8 hg8 (Nat.lt_trans z23 z34) z34 HL.out.2.2.1
      have HAP:=hide hap
      have o1e:=HAP.out.2.1.bx.cell 0 _ rfl
      have f1e:=HAP.out.2.1.bx.free 0 (by simp)
      clear hown8 hg8 hap
      refine hK.out _ _ HAP.out.2.2.1 (fun hHeld => ?_)
      clear hK K
      (try simp only [Act.put,zA0])
      refine wpAnyH_take (i:=10) (v:=?_) rfl (by kernel_rfl) (by kernel_rfl) (by kernel_rfl) (fun _ _ _ h => h) (Or.inl ⟨by rfl,?_⟩) hHeld ?_
      rotate_left 1
      ·(intro w hSw;go_simp;first | done | with_reducible rfl)
      (try simp only [Act.put])
      refine wpAnyH_ready (rs:=[11]) (by kernel_rfl) (by simp) ?_
      refine AllReadyH.cons rfl (fun K hK => ?_) (AllReadyH.nil)
      ·go_simp
       refine hK.out _ _ (HAP.out.2.2.1.else (p:=⟨b6,0,none⟩) hne _) (fun hHeld => ?_)
       clear hK K
       (try simp only [Act.put,zA0,zB0,zC0])
       refine wpAnyH_done (by kernel_rfl) ?_ _
       refine hK1 _ _ ?_
       go_meet
       exact grow_leaf HAP.out (below_call (hB5.trans (hb6'.mono q15)) (Nat.le_trans q15 hb6'.size) ((Below.refl w6.heap.size w6).alloc (Nat.le_refl _) _)) q13 hw4 z34
   ·go_simp
    refine hK.out _ _ HL.out.2.2.2.2.2.1 (fun hHeld => ?_)
    clear hK K
    (try simp only [Act.put,zA0,zB0,zC0])
    refine wpAnyH_ready (rs:=[1]) (by kernel_rfl) (by simp) ?_
    refine AllReadyH.cons rfl (fun K hK => ?_) (AllReadyH.nil)
    ·go_simp
     refine hK.out _ _ hHeld (fun hHeld => ?_)
     clear hK K
     (try simp only [Act.put,zA0,zB0,zC0])
     refine wpAnyH_ready (rs:=[9]) (by kernel_rfl) (by simp) ?_
     refine AllReadyH.cons rfl (fun K hK => ?_) (AllReadyH.nil)
     ·refine step_append_lies _ rfl (.tmp 15) (.tmp 22) 36 rfl w3.heap.size 33 ti _ 2 32 Tryz.underlying36 hti hti1 hti2 hti3 tySchs.zs (by decide) _ sd.length (slsV sd) (by simp [Act.eval]) HL.out.1.sown _ 1 1 (slV ⟨sid,sfs,A6,c6⟩) (by simp [Act.eval]) rfl HL.out.2.1 (slV_one _) (by omega) (by unfold maxLen <;> omega) (by omega) HL.out.2.2.1 _ rfl ?_
      intro g cap w8 hown8 hg8 _ _
      have hap:=grow_after HL.out.1 HL.out.2.2.2.1 HL.out.2.2.2.2.1 HL.out.2.2.2.2.2.1 HL.out.2.2.2.2.2.2 hown8 hg8 (Nat.lt_trans z23 z34) z34 HL.out.2.2.1
      have HAP:=hide hap
      have o1e:=HAP.out.2.1.bx.cell 0 _ rfl
      have f1e:=HAP.out.2.1.bx.free 0 (by simp)
      clear hown8 hg8 hap
      refine hK.out _ _ HAP.out.2.2.1 (fun hHeld => ?_)
      clear hK K
      (try simp only [Act.put,zA0])
      refine wpAnyH_take (i:=10) (v:=?_) rfl (by kernel_rfl) (by kernel_rfl) (by kernel_rfl) (fun _ _ _ h => h) (Or.inl ⟨by rfl,?_⟩) hHeld ?_
      rotate_left 1
      ·(intro w hSw;go_simp;first | done | with_reducible rfl)
      (try simp only [Act.put])
      refine wpAnyH_ready (rs:=[11]) (by kernel_rfl) (by simp) ?_
      refine AllReadyH.cons rfl (fun K hK => ?_) (AllReadyH.nil)
      ·go_simp
       refine hK.out _ _ (HAP.out.2.2.1.else (p:=⟨b6,0,none⟩) hne _) (fun hHeld => ?_)
       clear hK K
       (try simp only [Act.put,zA0,zB0,zC0])
       refine wpAnyH_done (by kernel_rfl) ?_ _
       refine hK1 _ _ ?_
       go_meet
       exact grow_leaf HAP.out (below_call (hB5.trans (hb6'.mono q15)) (Nat.le_trans q15 hb6'.size) ((Below.refl w6.heap.size w6).alloc (Nat.le_refl _) _)) q13 hw4 z34
 case rest =>
  obtain ⟨g,cap,sd',hn',hX,hO,hX3,hb⟩:=hcut
  have hpn:=HPS.out.2
  have hps:sd'.map plS = ss.map plS ++ [(sid,sfs)]:=by rw [hn',HPS.out.1]
  have HPN:=hide (And.intro hps hpn)
  have hzc:=hX.bx.z
  have c0:=hX.bx.cell 0 _ rfl
  have c1:=hX.bx.cell 1 _ rfl
  have c2:=hX.bx.cell 2 _ rfl
  clear hn' hps hpn HPS
  go_wp2_with fail
  refine (metaRight wc _ cap sd' pA' pc' nd cur hO.tab).mono ?_
  rintro e w9 ⟨rfl,hb9⟩
  have X6:=hX.bx.keep hb9 hX.bx.z
  have X3:=hX3.keep hb9 hX3.z
  have O9:=hO.keep hb9
  have hB9:Below b1 w w9:=below_call hb (by omega) hb9
  rw [HPN.out.1,HPN.out.2]
  clear c0 c1 c2 hX hX3 hO hb hb9
  have k0:=X3.cell 0 _ rfl
  have f0:=X3.free 0 (by simp)
  have k1:=X3.cell 1 _ rfl
  have f1:=X3.free 1 (by simp)
  have k2:=X3.cell 2 _ rfl
  have f2:=X3.free 2 (by simp)
  have HX:=hide (And.intro X3 O9)
  cases hr:rightP (ss.map plS ++ [(sid,sfs)]) (ns.map plN) cur with
  | false =>
    have hpe:growErr (ss.map plS) (ns.map plN) cur (sid,sfs) = 1:=by unfold growErr;rw [if_neg (by rw [List.length_map];exact H32.out),hr];rfl
    have HPE:=hide hpe
    clear hpe hr X3 X6 O9
    go_wp2_with fail
    (try simp only [Exit.inBlock,Exit.then])
    refine bodyPost_ret (ret_tb2 (b:=b3) rfl _ _ rfl HX.out.1.set3b) rfl ?_
    rw [HP.out]
    unfold GrowEnd
    rw [HPE.out,if_neg (by decide)]
    exact step_bad w _ 1 (by rw [H1.out];exact below_set3b hB9 (by omega))
  | true =>
    have hpe:growErr (ss.map plS) (ns.map plN) cur (sid,sfs) = 0:=by unfold growErr;rw [if_neg (by rw [List.length_map];exact H32.out),hr];rfl
    have HPE:=hide hpe
    have d0:=X6.cell 0 _ rfl
    have d1:=X6.cell 1 _ rfl
    have d2:=X6.cell 2 _ rfl
    clear hpe hr X3 X6 O9
    go_wp2_with fail
    (try simp only [Exit.inBlock,Exit.then])
    refine bodyPost_ret (ret_tb2 (b:=b3) rfl _ _ rfl HX.out.1.set3b) rfl ?_
    rw [HP.out]
    unfold GrowEnd
    rw [HPE.out,if_pos rfl]
    exact ⟨_,cap,sd',pA',pc',nd,rfl,by rw [H1.out];exact (HX.out.2.set3b z34).base (by omega),HPN.out.1,HPN.out.2,by rw [H1.out];exact below_set3b hB9 (by omega)⟩
end
end Go.Proofs.YtpfofefecamkfaaGreatDoor
