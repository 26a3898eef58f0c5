/- WHAT SERVES THE TABLES' STATEMENTS, part 12: ObD, ObE, ObL, ObR, ObG, ObH, ObV, Sch, SchF, SchA, Val, Meta, MetaRP, MetaZ. No statement of the seat is proved here. -/
import Derived.Test.YtpfofefecamkfaaGreatDoorG11
import Derived.Deep.LoopGhost
import Derived.Lib.SliceRun
import Derived.Shelf.Abstract
import Derived.Laws.ResultCell
import Derived.Deep.OwnRows
namespace Go.Proofs.YtpfofefecamkfaaGreatDoor
open Go.RowKit
set_option maxRecDepth 100000


theorem Oth.set' {u w:World} {p:Addr} (h:Oth p.block u w) (x:Value):Oth p.block u (w.setCell p x):=h.trans ⟨rfl,rfl,rfl,by simp [World.setCell],fun _ _ hne => Below.heap_setCell _ _ _ _ hne⟩
theorem msum_put {m:Mp} (hd:mdist m) {s:ByteArray} {t:Th} (h:mget m s = some t) (u:Th):msum (mput m s u) + t.bs.length = msum m + u.bs.length:=by
 have:=msum_del hd h
 unfold mput
 rw [msum_append]
 have e:msum [(s,u)] = u.bs.length:=by simp [msum]
 rw [e]
 omega
theorem mget_len {m:Mp} {s:ByteArray} {t:Th} (hd:mdist m) (h:mget m s = some t):t.bs.length ≤ msum m:=by
 have:=msum_del hd h
 omega
theorem RdP.ostP {P:Nat → Prop} {w w':World} {sb mb:Nat} {A:Option Addr} {n c:Nat} {l:List UInt8} (h:RdP w P A n c l) (ho:Ost sb mb w w') (h1:¬ P sb) (h2:¬ P mb):RdP w' P A n c l :=
 h.keep ho.size fun p hp hl => ho.cell hl (fun q => h1 (by rw [← q];exact hp)) (fun q => h2 (by rw [← q];exact hp))
theorem StR.nM {P:Nat → Prop} {w:World} {sb mb N:Nat} {s:So} (h:StR P w sb mb N s):¬ P mb:=by obtain ⟨D,hD⟩:=h.mp;exact hD.nP
/-- a cell of a block of none's turned -/
theorem StR.else {P:Nat → Prop} {w:World} {sb mb N:Nat} {s:So} (h:StR P w sb mb N s) {p:Addr} (h1:p.block ≠ sb) (h2:p.block ≠ mb) (h3:¬ P p.block) (x:Value):StR P (w.setCell p x) sb mb N s:=by
 have ho:=(Oth.refl p.block w).set' x
 obtain ⟨D,hD⟩:=h.mp
 exact ⟨h.bx.oth ho (fun q => h1 q.symm),⟨D,hD.move ho.size (ho.block mb hD.lt (fun q => h2 q.symm)) (fun r hr hl => ho.cell hl (fun q => h3 (by rw [← q];exact hr)))⟩,h.nP,h.ne,h.ok⟩
theorem So.sync_dead {s:So} (h:s.dead = true) (nm:ByteArray):s.sync nm = (s,120):=by unfold So.sync;rw [if_pos h]
theorem So.sync_none {s:So} (h:s.dead = false) {nm:ByteArray} (hg:mget s.m nm = none):s.sync nm = (s,2):=by unfold So.sync;rw [if_neg (by rw [h];simp),hg]
theorem So.sync_on {s:So} (h:s.dead = false) {nm:ByteArray} {t:Th} (hg:mget s.m nm = some t):s.sync nm = if s.change.2 = 0 then ({ s.change.1 with m:=mput s.change.1.m nm ⟨t.bs,false⟩ },0) else s.change:=by unfold So.sync;rw [if_neg (by rw [h];simp),hg]
theorem So.ok.turn {s:So} (h:s.ok) {nm:ByteArray} {t:Th} (hg:mget s.m nm = some t) (l:Bool):({ s with m:=mput s.m nm ⟨t.bs,l⟩ }:So).ok:=by
 obtain ⟨a,b,c,d,e,f,g,i,j⟩:=h
 have:=msum_put j hg ⟨t.bs,l⟩
 exact ⟨a,b,by show s.used = msum (mput s.m nm ⟨t.bs,l⟩);dsimp only at this;omega,d,e,f,g,i,mput_dist j nm _⟩
set_option maxHeartbeats 4000000 in
theorem objSync (P:Nat → Prop) (w:World) (sb mb N:Nat) (s:So) (h:StR P w sb mb N s) (hN:N ≤ 1000000) (nm:ByteArray) (hn:nm.size ≤ maxLen) :
 Calls Tryz.prog 79 #[.pointer (some ⟨sb,0,none⟩),.string nm] w (StEndO P w sb mb (N + 1) (s.sync nm)):=by
 have c2:=h.bx.cell 2 _ rfl
 have c6:=h.bx.cell 6 _ rfl
 obtain ⟨D,hD⟩:=h.mp
 cases hd:s.dead with
 | true =>
   rw [hd] at c6
   have HG:=hide (So.sync_dead hd nm)
   clear hd hD
   go_enter Tryz.func79,Tryz.ntmps79
   go_wp2_with fail
   go_ret
   rw [HG.out]
   exact ⟨rfl,h.mono (Nat.le_succ _),Ost.refl _ _ _⟩
 | false =>
   rw [hd] at c6
   cases hg:mget s.m nm with
   | none =>
     have hk:=(hD.none hg hn).1
     have HG:=hide (So.sync_none hd hg)
     unfold zTh at hk
     clear hg hD hd
     go_enter Tryz.func79,Tryz.ntmps79
     go_wp2_with fail
     go_ret
     rw [HG.out]
     have hb:=(Below.refl w.heap.size w).alloc (Nat.le_refl _) (.cells #[.slice none 0 0,.bool false] 131)
     exact ⟨rfl,(h.keep hb).mono (Nat.le_succ _),.of hb⟩
   | some t =>
     obtain ⟨A,c,hk,_,hr⟩:=hD.some_ hg hn
     have HG:=hide (So.sync_on hd hg)
     have HGT:=hide hg
     have hb1:=(Below.refl w.heap.size w).alloc (Nat.le_refl _) (.cells #[.slice A t.bs.length c,.bool t.loose] 131)
     have OW0:=Ost.of (sb:=sb) (mb:=mb) hb1
     have y:=boxN_new w #[.slice A t.bs.length c,.bool t.loose] 131
     have hnP:=h.nP
     have hnM:=h.nM
     have hsz:sb < w.heap.size:=h.bx.z
     have hmz:=h.mlt
     have h1:=(h.imp (Q:=fun k => P k ∧ k ≠ w.heap.size) (fun k hk hl => ⟨hk,by omega⟩) (fun q => hnP q.1) (fun q => hnM q.1)).keep hb1
     have hr1:=(hr.imp (Q:=fun k => P k ∧ k ≠ w.heap.size) (fun k hk hl => ⟨hk,by omega⟩)).low hb1
     clear hg hD hd hr h
     go_enter Tryz.func79,Tryz.ntmps79
     go_wp2_with fail
     generalize w.alloc (.cells #[.slice A t.bs.length c,.bool t.loose] 131) = w1 at *
     have HYB:Hid (w.heap.size ≤ w.heap.size):=hide (Nat.le_refl _)
     obtain ⟨yb,hyb⟩:∃ b,b = w.heap.size:=⟨_,rfl⟩
     replace HYB:Hid (w.heap.size ≤ yb):=hide (by omega)
     rw [← hyb] at h1 hr1 y ⊢
     have hsz:sb < yb:=by omega
     have hmz:mb < yb:=by omega
     clear hyb
     have hQ1:¬ (fun k => P k ∧ k ≠ yb) yb:=fun q => q.2 rfl
     have hQ2:∀ k,(fun k => P k ∧ k ≠ yb) k → P k:=fun k q => q.1
     have hQ3:¬ (fun k => P k ∧ k ≠ yb) sb:=fun q => hnP q.1
     have hQ4:¬ (fun k => P k ∧ k ≠ yb) mb:=fun q => hnM q.1
     generalize (fun k => P k ∧ k ≠ yb) = Q at *
     refine (objChange Q w1 sb mb N s h1).mono ?_
     rintro e w3 ⟨rfl,h3,O3⟩
     obtain ⟨⟨s3,er⟩,hr3⟩:∃ r,s.change = r:=⟨_,rfl⟩
     have hs3:s3.m = s.m:=by have:=So.change_m s;rw [hr3] at this;exact this
     rw [hr3] at h3 ⊢
     have HG2:Hid (s.sync nm = if er = 0 then ({ s3 with m:=mput s3.m nm ⟨t.bs,false⟩ },0) else (s3,er)):=hide (by rw [HG.out,hr3])
     have hg3:mget s3.m nm = some t:=by rw [hs3];exact HGT.out
     dsimp only at h3 ⊢
     have ynS:yb ≠ sb:=by omega
     have ynM:yb ≠ mb:=by omega
     have y3:BoxN w3 yb [.slice A t.bs.length c,.bool t.loose]:=by
      have hbk:w3.heap[yb]? = w1.heap[yb]?:=O3.block yb y.z ynS ynM
      exact ⟨fun j v hj => (World.cell?_of_block (w:=w1) (a:=⟨yb,j,none⟩) hbk).trans (y.cell j v hj),fun j hj => (World.frozen?_of_block (w:=w1) (a:=⟨yb,j,none⟩) hbk).trans (y.free j hj),Nat.lt_of_lt_of_le y.z O3.size⟩
     have hrow:=hr1.ostP O3 hQ3 hQ4
     have OW:=OW0.trans O3
     clear hr3 hs3 h1 y hr1 O3 OW0 c2 c6 hk
     by_cases h0:er = 0
     ·subst h0
      have HF:=hide (HG2.out.trans (if_pos rfl))
      have x1:=y3.cell 1 _ rfl
      have fx1:=y3.free 1 (by simp)
      have h4:=h3.else (p:=⟨yb,1,none⟩) ynS ynM hQ1 (.bool false)
      have y4:=y3.set (j:=1) (.bool false) rfl
      have hrow4:RdP (w3.setCell ⟨yb,1,none⟩ (.bool false)) Q A t.bs.length c t.bs:=hrow.keep (by simp) fun p hp _ => (cell_else (p:=⟨yb,1,none⟩) (q:=p) (fun r => hQ1 (by have r2:p.block = yb:=r;rw [← r2];exact hp)) _).1
      have O4:Ost sb mb w (w3.setCell ⟨yb,1,none⟩ (.bool false)):=⟨OW.os,OW.tape,OW.output,by simpa using OW.size,fun k hk h1 h2 => (Below.heap_setCell _ _ _ _ (by show k ≠ yb;have:=HYB.out;omega)).trans (OW.block k hk h1 h2)⟩
      go_upto_region 9 with fail
      generalize w3.setCell ⟨yb,1,none⟩ (.bool false) = w4 at *
      have h4d:=h4.drew
      have k2:=h4d.bx.cell 2 _ rfl
      have y0:w4.drew.cell? ⟨yb,0,none⟩ = some (.slice A t.bs.length c):=y4.cell 0 _ rfl
      have y1:w4.drew.cell? ⟨yb,1,none⟩ = some (.bool false):=y4.cell 1 _ rfl
      obtain ⟨D4,hD4⟩:=h4d.mp
      obtain ⟨w5,D5,hrun,hD5,hg5⟩:=hD4.put (lo:=false) (s:=nm) hN hn (hrow4.low (Below.refl _ w4).drew)
      have h5:=h4d.map hg5 hD5 (h4d.ok.turn hg3 false)
      have hyb5:w5.heap[yb]? = w4.drew.heap[yb]?:=hg5.block yb y4.z (by intro q;injection q with q;exact ynM q)
      have z0:=(World.cell?_of_block (w:=w4.drew) (a:=⟨yb,0,none⟩) hyb5).trans y0
      have z1:=(World.cell?_of_block (w:=w4.drew) (a:=⟨yb,1,none⟩) hyb5).trans y1
      have j2:=h5.bx.cell 2 _ rfl
      have H5:=hide h5
      have O5:=hide (O4.drew.trans (Ost.map hg5))
      clear h5 hD5 hg5 hyb5 hD4 h4d h4 y4 y3 hrow hrow4 O4 OW h3 x1 fx1
      refine wp_region_held_drew (S:=fun w' => w'.cell? ⟨sb,2,none⟩ = some (.map (some mb)) ∧ w'.cell? ⟨yb,0,none⟩ = some (.slice A t.bs.length c) ∧ w'.cell? ⟨yb,1,none⟩ = some (.bool false)) (by kernel_rfl) ?_ (fun hHeld => ?_)
      ·exact ⟨k2,y0,y1⟩
      refine wpAnyH_take (i:=0) (v:=?_) rfl (by kernel_rfl) (by kernel_rfl) (by kernel_rfl) (fun _ _ _ h => h) (Or.inl ⟨by rfl,?_⟩) hHeld ?_
      rotate_left 1
      ·(intro w' hSw;go_simp;first | done | with_reducible rfl)
      (try simp only [Act.put,zA0])
      refine wpAnyH_take (i:=1) (v:=?_) rfl (by kernel_rfl) (by kernel_rfl) (by kernel_rfl) (fun _ _ _ h => h) (Or.inl ⟨by rfl,?_⟩) hHeld ?_
      rotate_left 1
      ·(intro w' hSw;go_simp;first | done | with_reducible rfl)
      (try simp only [Act.put])
      refine wpAnyH_take (i:=2) (v:=?_) rfl (by kernel_rfl) (by kernel_rfl) (by kernel_rfl) (fun _ _ _ h => h) (Or.inl ⟨by rfl,?_⟩) hHeld ?_
      rotate_left 1
      ·(intro w' hSw;go_simp;first | done | with_reducible rfl)
      (try simp only [Act.put])
      refine wpAnyH_take (i:=3) (v:=?_) rfl (by kernel_rfl) (by kernel_rfl) (by kernel_rfl) (fun _ _ _ h => h) (Or.inl ⟨by rfl,?_⟩) hHeld ?_
      rotate_left 1
      ·(intro w' hSw;obtain ⟨q2,r0,r1⟩:=hSw;go_simp;first | done | with_reducible rfl)
      (try simp only [Act.put])
      refine wpAnyH_take (i:=4) (v:=?_) rfl (by kernel_rfl) (by kernel_rfl) (by kernel_rfl) (fun _ _ _ h => h) (Or.inl ⟨by rfl,?_⟩) hHeld ?_
      rotate_left 1
      ·(intro w' hSw;go_simp;first | done | with_reducible rfl)
      (try simp only [Act.put])
      refine wpAnyH_take (i:=5) (v:=?_) rfl (by kernel_rfl) (by kernel_rfl) (by kernel_rfl) (fun _ _ _ h => h) (Or.inl ⟨by rfl,?_⟩) hHeld ?_
      rotate_left 1
      ·(intro w' hSw;obtain ⟨q2,r0,r1⟩:=hSw;go_simp;first | done | with_reducible rfl)
      (try simp only [Act.put])
      refine wpAnyH_ready (rs:=[6]) (by kernel_rfl) (by simp) ?_
      refine AllReadyH.cons rfl (fun K hK => ?_) AllReadyH.nil
      go_simp
      refine hK.out _ _ ⟨j2,z0,z1⟩ (fun hHeld => ?_)
      clear hK K
      (try simp only [Act.put,zA0,zB0,zC0])
      refine wpAnyH_done (by kernel_rfl) ?_ _
      go_wp2_with fail
      go_ret
      rw [HF.out]
      exact ⟨rfl,H5.out.imp (fun k hk _ => hQ2 k hk) hnP hnM,O5.out⟩
     ·have HF:=hide (HG2.out.trans (if_neg h0))
      have t26:((er:Int) == 0) = false:=by rw [beq_eq_false_iff_ne];omega
      clear h0
      go_wp2_with fail
      go_ret
      rw [HF.out]
      exact ⟨rfl,(h3.imp (fun k hk _ => hQ2 k hk) hnP hnM).mono (Nat.le_succ _),OW⟩


theorem field_b (A:Option Addr) (n c:Nat) (l:Bool) (W:World):(Instr.field 131 (.agg #[.slice A n c,.bool l]) 0).run Tryz.prog W = .ok (.slice A n c) W:=by kernel_rfl
theorem field_l (A:Option Addr) (n c:Nat) (l:Bool) (W:World):(Instr.field 131 (.agg #[.slice A n c,.bool l]) 1).run Tryz.prog W = .ok (.bool l) W:=by kernel_rfl
theorem MapR.del {P:Nat → Prop} {w:World} {mb N:Nat} {m:Mp} {D:DataW Value} (h:MapR P w mb N m D) {s:ByteArray} (hs:s.size ≤ maxLen) :
 ∃ w' D',(∀ ty,(Builtin.delete_ #[104,9] ty #[.map (some mb),.string s]).run Tryz.prog w = .ok (.tuple #[]) w') ∧ MapR P w' mb N (mdel m s) D' ∧ w.grownBy w' (some mb):=by
 obtain ⟨w',hrun,hown,hmt⟩:=h.own.drop kStr kMapO (key_of s hs) 0
 have hg:=hmt.grown
 have hcell:∀ p:Addr,P p.block → p.block < w.heap.size → w'.cell? p = w.cell? p:=fun p hp hl => World.cell?_of_block (w:=w) (hg.block p.block hl (by intro q;injection q with q;rw [q] at hp;exact h.nP hp))
 refine ⟨w',_,fun ty => ?_,⟨hown,fun r => ?_,fun r t hrt => ?_,h.nP⟩,hg⟩
 ·exact hrun
 ·by_cases e:r = s
  ·subst e
   rw [Maps.has_del_same]
   unfold mhas
   rw [mget_del_same]
   rfl
  ·rw [Maps.has_del_other (kLit_ne e),h.has]
   unfold mhas
   rw [mget_del_other e]
 ·by_cases e:r = s
  ·subst e
   rw [mget_del_same] at hrt
   cases hrt
  ·rw [mget_del_other e] at hrt
   obtain ⟨A2,c2,h1,h2⟩:=h.at_ r t hrt
   exact ⟨A2,c2,(Maps.atKey_del_other (kLit_ne e) _).trans h1,h2.keep hg.size hcell⟩
theorem So.drop_some {s:So} {nm:ByteArray} {t:Th} (h:mget s.m nm = some t):s.drop nm = { s with m:=mdel s.m nm,used:=s.used - t.bs.length }:=by unfold So.drop;rw [h]
set_option maxHeartbeats 4000000 in
theorem objDrop (P:Nat → Prop) (w:World) (sb mb N:Nat) (s:So) (h:StR P w sb mb N s) (nm:ByteArray) (hn:nm.size ≤ maxLen) (t:Th) (ht:mget s.m nm = some t) :
 Calls Tryz.prog 53 #[.pointer (some ⟨sb,0,none⟩),.string nm] w fun e w' => e = .returned (.tuple #[]) ∧ StR P w' sb mb N (s.drop nm) ∧ Ost sb mb w w':=by
 have c1:=h.bx.cell 1 _ rfl
 have c2:=h.bx.cell 2 _ rfl
 have f1:=h.bx.free 1 (by simp)
 obtain ⟨D,hD⟩:=h.mp
 obtain ⟨A,c,_,hk,hr⟩:=(hD.keep (Below.refl _ w).drew).some_ ht hn
 have hdl:=mget_len h.ok.di ht
 have hu:=h.ok.us
 have huq:=h.ok.uq
 have hq1:=h.ok.q1
 have w16:wrap64 (s.used - (t.bs.length:Int)) = s.used - (t.bs.length:Int):=IntWalk.wrap64_in _ ⟨by omega,by omega⟩
 have HOK:=hide (h.ok.drop nm)
 have hfd:=field_b A t.bs.length c t.loose
 have HS:=hide (So.drop_some ht)
 have hnP:=h.nP
 have hne:=h.ne
 have hx:=h.bx
 clear ht hdl hu huq hq1 hr
 go_enter Tryz.func53,Tryz.ntmps53
 go_upto_region 0 with fail
 go_region
 have O1:=((Oth.refl sb w).set 1 (.int .i64 (s.used - (t.bs.length:Int)))).drew
 have x1:=(hx.set (j:=1) (.int .i64 (s.used - (t.bs.length:Int))) rfl).oth (Oth.refl (sb + 1) _).drew (by omega)
 have hD1:=hD.move O1.size (O1.block mb hD.lt (fun q => hne q.symm)) (fun p hp hl => O1.cell hl (fun q => hnP (by rw [← q];exact hp)))
 generalize (w.setCell ⟨sb,1,none⟩ (.int .i64 (s.used - (t.bs.length:Int)))).drew = w1 at *
 obtain ⟨w2,D2,hdel,hD2,hg2⟩:=hD1.del (s:=nm) hn
 have k2:=x1.cell 2 _ rfl
 have hbk:w2.heap[sb]? = w1.heap[sb]?:=hg2.block sb x1.z (by intro q;injection q with q;exact hne q)
 have x2:BoxN w2 sb [.int .i64 s.quota,.int .i64 (s.used - (t.bs.length:Int)),.map (some mb),.string s.cell,.int .i64 s.fuse,.int .i64 s.fault,.bool s.dead]:=⟨fun j v hj => (World.cell?_of_block (w:=w1) (a:=⟨sb,j,none⟩) hbk).trans (x1.cell j v hj),fun j hj => (World.frozen?_of_block (w:=w1) (a:=⟨sb,j,none⟩) hbk).trans (x1.free j hj),Nat.lt_of_lt_of_le x1.z hg2.size⟩
 have HX:=hide (And.intro x2 (And.intro hD2 ((Ost.ofOth (mb:=mb) O1).trans (Ost.map hg2))))
 clear c1 c2 f1 hk x1 x2 hD1 hD2 hg2 O1 hbk hx hD h
 go_wp2_with fail
 go_end0
 rw [HS.out] at HOK ⊢
 exact ⟨rfl,⟨HX.out.1,⟨D2,HX.out.2.1⟩,hnP,hne,HOK.out⟩,HX.out.2.2⟩
theorem So.swap_dead {s:So} (h:s.dead = true) (o n:ByteArray):s.swap o n = (s,120):=by unfold So.swap;rw [if_pos h]
theorem So.swap_other {s:So} (h:s.dead = false) {o:ByteArray} (n:ByteArray) (hc:(s.cell.toList == o.toList) = false):s.swap o n = (s,123):=by unfold So.swap;rw [if_neg (by rw [h];simp),if_pos hc]
theorem So.swap_name {s:So} (h:s.dead = false) {o n:ByteArray} (hc:(s.cell.toList == o.toList) = true) (hn:pathOk n = false):s.swap o n = (s,1):=by unfold So.swap;rw [if_neg (by rw [h];simp),if_neg (by rw [hc];simp),if_pos hn]
theorem So.swap_on {s:So} (h:s.dead = false) {o n:ByteArray} (hc:(s.cell.toList == o.toList) = true) (hn:pathOk n = true):s.swap o n = if s.change.2 = 0 then ({ s.change.1 with cell:=n },0) else s.change:=by unfold So.swap;rw [if_neg (by rw [h];simp),if_neg (by rw [hc];simp),if_neg (by rw [hn];simp)]
set_option maxHeartbeats 4000000 in
theorem objSwap (P:Nat → Prop) (w:World) (sb mb N:Nat) (s:So) (h:StR P w sb mb N s) (o nw:ByteArray) :
 Calls Tryz.prog 86 #[.pointer (some ⟨sb,0,none⟩),.string o,.string nw] w (StEndO P w sb mb N (s.swap o nw)):=by
 have c6:=h.bx.cell 6 _ rfl
 have c3:=h.bx.cell 3 _ rfl
 cases hd:s.dead with
 | true =>
   rw [hd] at c6
   have HG:=hide (So.swap_dead hd o nw)
   clear hd
   go_enter Tryz.func86,Tryz.ntmps86
   go_wp2_with fail
   go_ret
   rw [HG.out]
   exact ⟨rfl,h,Ost.refl _ _ _⟩
 | false =>
   rw [hd] at c6
   have HD:=hide hd
   clear hd
   cases t19:(s.cell.toList == o.toList) with
   | false =>
     have HG:=hide (So.swap_other HD.out nw t19)
     go_enter Tryz.func86,Tryz.ntmps86
     go_wp2_with fail
     go_ret
     rw [HG.out]
     exact ⟨rfl,h,Ost.refl _ _ _⟩
   | true =>
     have HC:=hide t19
     go_enter Tryz.func86,Tryz.ntmps86
     go_wp2_with fail
     refine (objNamed w nw).mono ?_
     rintro e w1 ⟨rfl,hb1⟩
     have h1:=h.keep hb1
     clear c6 c3 h t19
     cases hp:pathOk nw with
     | false =>
       have HG:=hide (So.swap_name HD.out HC.out hp)
       clear hp
       go_wp2_with fail
       go_ret
       rw [HG.out]
       exact ⟨rfl,h1,.of hb1⟩
     | true =>
       have HG:=hide (So.swap_on HD.out HC.out hp)
       clear hp
       go_wp2_with fail
       refine (objChange P w1 sb mb N s h1).mono ?_
       rintro e w3 ⟨rfl,h3,O3⟩
       obtain ⟨⟨s3,er⟩,hr3⟩:∃ r,s.change = r:=⟨_,rfl⟩
       rw [hr3] at h3 ⊢
       have HG2:Hid (s.swap o nw = if er = 0 then ({ s3 with cell:=nw },0) else (s3,er)):=hide (by rw [HG.out,hr3])
       have OW:=(Ost.of (sb:=sb) (mb:=mb) hb1).trans O3
       dsimp only at h3 ⊢
       clear hr3 h1 hb1 O3
       by_cases h0:er = 0
       ·subst h0
        have HF:=hide (HG2.out.trans (if_pos rfl))
        have k3:=h3.bx.cell 3 _ rfl
        have f3:=h3.bx.free 3 (by simp)
        go_wp2_with fail
        go_ret
        rw [HF.out]
        obtain ⟨a,b,c,d,e,f,g,i,j⟩:=h3.ok
        exact ⟨rfl,h3.box ((Oth.refl sb w3).set 3 _) rfl ⟨a,b,c,d,e,f,g,i,j⟩ (h3.bx.set (j:=3) (.string nw) rfl),OW.trans (.ofOth ((Oth.refl sb w3).set 3 _))⟩
       ·have HF:=hide (HG2.out.trans (if_neg h0))
        have t27:((er:Int) == 0) = false:=by rw [beq_eq_false_iff_ne];omega
        clear h0
        go_wp2_with fail
        go_ret
        rw [HF.out]
        exact ⟨rfl,h3,OW⟩


def nmOf (k:List UInt8):ByteArray:=⟨k.toArray⟩
def keysM (m:Mp):List (List UInt8):=m.map fun p => p.1.data.toList
def namesM (m:Mp):List ByteArray:=((keysM m).mergeSort leB).map nmOf
def looseAt (m:Mp) (s:ByteArray):Bool:=match mget m s with | some t => t.loose | none => false
def looseM (m:Mp):List ByteArray:=(namesM m).filter (looseAt m)
theorem nmOf_data (s:ByteArray):nmOf s.data.toList = s:=by unfold nmOf;cases s;simp
theorem kLit_nm (x:List UInt8):kLit (nmOf x) = .string x:=by simp [kLit,nmOf]
theorem mem_keys {m:Mp} {x:List UInt8}:x ∈ keysM m ↔ mhas m (nmOf x) = true:=by
 unfold keysM mhas
 rw [List.mem_map]
 constructor
 ·rintro ⟨p,hp,rfl⟩
  rw [nmOf_data]
  cases hg:mget m p.1 with
  | some t => rfl
  | none => exact absurd rfl (mget_none hg p hp)
 ·intro h
  obtain ⟨t,ht⟩:=Option.isSome_iff_exists.1 h
  exact ⟨_,mget_mem ht,by simp [nmOf]⟩
theorem MapR.keys {P:Nat → Prop} {w:World} {mb N:Nat} {m:Mp} {D:DataW Value} (h:MapR P w mb N m D) (hd:mdist m):(keysM m).Perm (strKeys D):=by
 obtain ⟨es,rfl,hp⟩:=h.own.tidy kStr
 obtain ⟨es2,e,hk⟩:=h.own.keysOf
 injection e with e
 subst e
 refine perm_strKeys hp (fun p hpm => ?_) ?_ fun x => ?_
 ·obtain ⟨key,hkey⟩:=hk p hpm
  obtain ⟨x,_,hx,_⟩:=Maps.keyOf_str Tryz.underlying9 hkey
  exact ⟨x,hx⟩
 ·unfold keysM
  refine List.pairwise_map.2 (hd.imp fun {p q} hne e => hne ?_)
  rw [← nmOf_data p.1, ← nmOf_data q.1,e]
 ·rw [mem_keys, ← h.has,kLit_nm]
theorem names_has {m:Mp} {s:ByteArray} (h:s ∈ namesM m):∃ t,mget m s = some t:=by
 unfold namesM at h
 obtain ⟨x,hx,rfl⟩:=List.mem_map.1 h
 have:mhas m (nmOf x) = true:=mem_keys.1 ((List.mergeSort_perm _ _).mem_iff.1 hx)
 exact Option.isSome_iff_exists.1 this
theorem MapR.size {P:Nat → Prop} {w:World} {mb N:Nat} {m:Mp} {D:DataW Value} (h:MapR P w mb N m D) {s:ByteArray} (hs:s ∈ namesM m) (hd:mdist m):s.size ≤ maxLen:=by
 unfold namesM at hs
 obtain ⟨x,hx,rfl⟩:=List.mem_map.1 hs
 have h1:x ∈ keysM m:=(List.mergeSort_perm _ _).mem_iff.1 hx
 have:=strKeys_le h.own Tryz.underlying9 x ((h.keys hd).mem_iff.1 h1)
 show x.toArray.size ≤ maxLen
 simpa using this
def StrEnd (w:World) (l:List ByteArray) (e:Ending) (w':World):Prop :=
 Below w.heap.size w w' ∧ ∃ A c,e = .returned (.slice A l.length c) ∧ Rd w' w'.heap.size 1 A l.length c (strsV l) ∧ ∀ b,b < w.heap.size → some b ≠ (Value.slice A l.length c).ownBlock
set_option maxHeartbeats 4000000 in
theorem objLoose (P:Nat → Prop) (w:World) (sb mb N:Nat) (s:So) (h:StR P w sb mb N s) (hN:N ≤ 1000000) :
 Calls Tryz.prog 19 #[.pointer (some ⟨sb,0,none⟩)] w (StrEnd w (looseM s.m)):=by
 have c2:=h.bx.cell 2 _ rfl
 obtain ⟨D,hD⟩:=h.mp
 have hsz:=hD.own.size_le
 have hperm:=hD.keys h.ok.di
 have hdi:=h.ok.di
 go_enter Tryz.func19,Tryz.ntmps19
 go_wp2_with fail
 refine (callsIn_wide.1 (maps_Keys_35 (some mb) w)).mono ?_
 rintro e w1 ⟨rfl,rfl⟩
 have hb1:=(Below.refl w.heap.size w).alloc (Nat.le_refl _) (.cells #[.map (some mb)] 104)
 go_wp2_with fail
 refine (callsIn_wide.1 (slices_Sorted_keys_34_35 mb N D elR w hD.own (by unfold maxLen;omega) (by omega))).mono ?_
 rintro e w2 ⟨v2,ss,rfl,hss,hown2,_,hb2⟩
 have hsort:ss.mergeSort leB = (keysM s.m).mergeSort leB:=mergeSort_of_perm (hss.trans hperm.symm)
 have hssl:ss.length = (namesM s.m).length:=by unfold namesM;rw [List.length_map, ← hsort,List.length_mergeSort]
 have hrow:(ss.mergeSort fun x y => decide (x ≤ y)).map Go.Proofs.encStr = strsV (namesM s.m):=by
  show (ss.mergeSort leB).map Go.Proofs.encStr = _
  rw [hsort]
  unfold strsV namesM
  rw [List.map_map]
  rfl
 rw [hrow,hssl] at hown2
 obtain ⟨A2,c2',rfl⟩:=own_slice hown2
 have hr2:=rd_own hown2
 have hB2:=below_call hb1 hb1.size hb2
 have HNS:=hide (And.intro hD hdi)
 obtain ⟨ns,hns⟩:∃ ns,namesM s.m = ns:=⟨_,rfl⟩
 rw [hns] at hr2 ⊢
 have HN:=hide hns
 have hmax:ns.length ≤ 9223372036854775807:=by have h1:=hr2.le;have h2:=hr2.cap;unfold maxLen at h2;omega
 have hnl:ns.length ≤ 1000000:=by
  have h1:ns.length = ss.length:=by rw [hssl,hns]
  have h2:=hss.length_eq
  have h3:(strKeys D).length = Maps.size D:=by
   obtain ⟨es,rfl,_⟩:=hD.own.tidy kStr
   simp [strKeys,Maps.size]
  omega
 clear hown2 hrow hssl hsort hss hb1 hb2 hperm hD hsz c2 hns
 go_wp2_with fail
 go_loopw [3,13] (fun v3 iv wr => ∃ (k:Nat) (oA:Option Addr) (oc:Nat) (out:List ByteArray),v3 = .slice oA out.length oc ∧ iv = .int .i64 (k:Int) ∧ k ≤ ns.length ∧ Hid (out = (ns.take k).filter (looseAt s.m)) ∧ out.length ≤ k ∧ wr.ownsRow w2.heap.size 9 1 (.slice oA out.length oc) out.length (strsV out) ∧ Below w2.heap.size w2 wr) (fun _ iv _ => ns.length - (intOf iv).toNat)
 case atStart => exact ⟨0,none,0,[],rfl,rfl,Nat.zero_le _,hide (by simp),Nat.le_refl _,World.ownsRow_nil _ _ _ _,Below.refl _ _⟩
 case round =>
  obtain ⟨k,oA,oc,out,rfl,rfl,hk,hout,hol,hown,hbr⟩:=hrel
  have hbw:=hB2.trans (hbr.mono hB2.size)
  by_cases hlt:k < ns.length
  ·have hr:=hr2.below hbr
   obtain ⟨b,off,rfl,hb,hc⟩:=hr.at_ (by omega)
   obtain ⟨nm,hnm⟩:∃ nm,ns.getD k ByteArray.empty = nm:=⟨_,rfl⟩
   have hnk:ns[k]? = some nm:=by rw [← hnm,List.getD_eq_getElem?_getD,List.getElem?_eq_getElem hlt];rfl
   have hcell:=hc k (.string nm) (by unfold strsV;rw [List.getElem?_map,hnk];rfl)
   have hmem:nm ∈ namesM s.m:=by rw [HN.out];exact List.mem_of_getElem? hnk
   obtain ⟨t,ht⟩:=names_has hmem
   have hnms:=HNS.out.1.size hmem HNS.out.2
   have hmpW:=HNS.out.1.keep (w':=wr) hbw
   obtain ⟨A,c,_,hlk,_⟩:=hmpW.some_ ht hnms
   have hfl:=field_l A t.bs.length c t.loose
   have k2:=(h.keep hbw).bx.cell 2 _ rfl
   have htk:ns.take (k + 1) = ns.take k ++ [nm]:=by rw [List.take_add_one,hnk];rfl
   have HTK:Hid ((ns.take (k + 1)).filter (looseAt s.m) = out ++ (if t.loose = true then [nm] else [])):=hide (by
    rw [htk,List.filter_append, ← hout.out]
    have e:looseAt s.m nm = t.loose:=by unfold looseAt;rw [ht]
    rw [List.filter_cons,e]
    cases t.loose <;> simp)
   obtain ⟨lo,hlo⟩:∃ lo,t.loose = lo:=⟨_,rfl⟩
   rw [hlo] at hfl hlk HTK
   clear hnm hnk hc hmem ht hmpW htk hlo
   cases lo with
   | false =>
     go_wp2_with fail
     go_roundw
     case rel => exact ⟨k + 1,oA,oc,out,rfl,by go_num,hlt,hide (by rw [HTK.out];simp),by omega,hown,hbr⟩
     case measure => simp [intOf];omega
   | true =>
     have hbL:=(Below.refl wr.heap.size wr).alloc (Nat.le_refl _) (.cells #[.string nm] 9)
     have hom:=own_below hown hbL
     have hrL:Rd (wr.alloc (.cells #[.string nm] 9)) (wr.heap.size + 1) 1 (some ⟨wr.heap.size,0,none⟩) 1 1 (strsV [nm]):=Rd.lit (n:=1) (sz:=1) wr 9 #[.string nm] rfl (by unfold maxLen;omega)
     have hz6:w2.heap.size ≤ (wr.alloc (.cells #[.string nm] 9)).heap.size:=Nat.le_trans hbr.size hbL.size
     have HB:=hide ((Below.refl w2.heap.size wr).alloc hbr.size (.cells #[.string nm] 9))
     go_wp2_with (at_builtin;refine wpList_app _ tyStrs rfl (.tmp 24) (.tmp 26) rfl w2.heap.size _ out.length (strsV out) rfl hom (wr.heap.size + 1) _ 1 1 _ rfl hrL (strsV_one [nm]) (by omega) hz6 ?_;intro v8 w8 hown8 hg8 _)
     have hb8:=below_app HB.out (Nat.le_refl _) hom hg8 hz6
     have e1:(out ++ [nm]).length = out.length + 1:=by simp
     have e2:strsV (out ++ [nm]) = strsV out ++ strsV [nm]:=by simp [strsV]
     obtain ⟨g,cap,rfl,_,_⟩:=hown8.form (by omega)
     have hown9:w8.ownsRow w2.heap.size 9 1 (.slice (some ⟨g,0,none⟩) (out ++ [nm]).length cap) (out ++ [nm]).length (strsV (out ++ [nm])):=by rw [e1,e2];exact hown8
     have hbr9:=hbr.trans hb8
     rw [← e1]
     clear hown8 hg8 hom hrL k2 hcell
     go_wp2_with fail
     go_roundw
     case rel => exact ⟨k + 1,some ⟨g,0,none⟩,cap,out ++ [nm],rfl,by go_num,hlt,hide (by rw [HTK.out];simp),by rw [e1];omega,hown9,hbr9⟩
     case measure => simp [intOf];omega
  ·have HO:Hid (out = looseM s.m):=hide (by rw [hout.out,List.take_of_length_le (by omega), ← HN.out];rfl)
   have hrO:=rd_own hown
   go_wp2_with fail
   go_ret
   refine ⟨hbw,oA,oc,by rw [← HO.out];rfl,by rw [← HO.out];exact hrO,fun b hb => by rw [← HO.out];exact row_ne_low hown (Nat.lt_of_lt_of_le hb hB2.size)⟩


theorem run_cut_max {P:Program} {t e:TypeId} {sz by_:Nat} {z:Value} (T:STy P t e sz by_ z) (A:Option Addr) (n c:Nat) (k:IntKind) (h:Int) (hi:Nat) (he:h = (hi:Int)) (h2:hi ≤ c) (w:World) :
 (Instr.slice t (.slice A n c) none (some (.int k h)) (some (.int k h))).run P w = .ok (.slice A hi hi) w:=by
 obtain ⟨i,hi',hz,hs,hb⟩:=info_parts T.inf
 subst he
 have e0:A.map (fun x => x.add 0) = A:=by cases A <;> simp [Addr.add]
 simp [Instr.slice,run_underlying T.ut,Instr.sliceBounds,run_sliceBound,sizeOf,typeInfo,hi',h2,e0]
theorem cut_max {P:Program} {t e:TypeId} {sz by_:Nat} {z:Value} (T:STy P t e sz by_ z) (A:Option Addr) (n c:Nat) (k:IntKind) (h:Int) (hi:Nat) (he:h = (hi:Int)) (h2:hi ≤ c) (w:World) :
 (Instr.sliceAt t (.slice A n c) none (some (.int k h)) (some (.int k h))).run P w = .ok (.slice A hi hi) w:=by
 simp only [Instr.sliceAt,Sem.run_bind,run_underlying T.ut,Result.andThen]
 exact run_cut_max T A n c k h hi he h2 w
theorem RdP.pre {P:Nat → Prop} {w:World} {A:Option Addr} {c:Nat} {l:List UInt8} (h:RdP w P A l.length c l) (k:Nat):RdP w P A (l.take k).length (l.take k).length (l.take k):=by
 have hle:(l.take k).length ≤ l.length:=by rw [List.length_take];omega
 have hr:=h.rd.pre hle
 have e:(bytesV l).take ((l.take k).length * 1) = bytesV (l.take k):=by
  unfold bytesV
  rw [Nat.mul_one, ← List.map_take]
  congr 1
  rw [List.length_take]
  rcases Nat.le_total k l.length with q | q
  ·rw [Nat.min_eq_left q]
  ·rw [Nat.min_eq_right q,List.take_length,List.take_of_length_le q]
 rw [e] at hr
 have hcp:=h.rd.cap
 have hl:=h.rd.le
 exact ⟨⟨hr.len,Nat.le_refl _,by omega,hr.at_⟩,fun hn => h.at_ (by omega)⟩
def So.trunc (s:So) (nm:ByteArray) (n:Nat):So:=match mget s.m nm with
 | none => s
 | some t => { s with m:=mput s.m nm ⟨t.bs.take n,false⟩,used:=s.used - ((t.bs.length:Int) - ((t.bs.take n).length:Int)) }
def crashAt (s:So) (i:Nat) (nm:ByteArray) (keep:List Int):So:=if keep.length ≤ i ∨ keep.getD i 0 < 0 then s.drop nm else s.trunc nm (keep.getD i 0).toNat
def crashN (s:So) (ns:List ByteArray) (keep:List Int):Nat → So
 | 0 => s
 | k + 1 => crashAt (crashN s ns keep k) k (ns.getD k ByteArray.empty) keep
def So.crash (s:So) (keep:List Int):So := { crashN s (looseM s.m) keep (looseM s.m).length with dead:=false,fuse := -1,fault := -1 }
theorem So.trunc_some {s:So} {nm:ByteArray} {t:Th} (h:mget s.m nm = some t) (n:Nat):s.trunc nm n = { s with m:=mput s.m nm ⟨t.bs.take n,false⟩,used:=s.used - ((t.bs.length:Int) - ((t.bs.take n).length:Int)) }:=by unfold So.trunc;rw [h]
theorem So.ok.trunc {s:So} (h:s.ok) {nm:ByteArray} {t:Th} (hg:mget s.m nm = some t) (n:Nat):(s.trunc nm n).ok:=by
 rw [So.trunc_some hg]
 obtain ⟨a,b,c,d,e,f,g,i,j⟩:=h
 have h1:=msum_put j hg ⟨t.bs.take n,false⟩
 have h2:=mget_len j hg
 have h3:(t.bs.take n).length ≤ t.bs.length:=by rw [List.length_take];omega
 dsimp only at h1
 exact ⟨a,b,by dsimp only;omega,by dsimp only;omega,e,f,g,i,mput_dist j nm _⟩
theorem trunc_other {s:So} {nm r:ByteArray} (h:r ≠ nm) (n:Nat):mget (s.trunc nm n).m r = mget s.m r:=by
 unfold So.trunc
 split
 ·rfl
 ·exact mget_put_other h
theorem drop_other {s:So} {nm r:ByteArray} (h:r ≠ nm):mget (s.drop nm).m r = mget s.m r:=by
 unfold So.drop
 split <;> exact mget_del_other h
theorem crashAt_other {s:So} {nm r:ByteArray} (h:r ≠ nm) (i:Nat) (keep:List Int):mget (crashAt s i nm keep).m r = mget s.m r:=by
 unfold crashAt
 split
 ·exact drop_other h
 ·exact trunc_other h _
theorem loose_dist {m:Mp} (hd:mdist m):(looseM m).Pairwise (· ≠ ·):=by
 unfold looseM namesM
 refine List.Pairwise.filter _ ?_
 refine List.pairwise_map.2 ?_
 have h1:(keysM m).Pairwise (· ≠ ·):=by
  unfold keysM
  refine List.pairwise_map.2 (hd.imp fun {p q} hne e => hne ?_)
  rw [← nmOf_data p.1, ← nmOf_data q.1,e]
 have h2:((keysM m).mergeSort leB).Pairwise (· ≠ ·):=((List.mergeSort_perm _ _).pairwise_iff (fun {a b} (h:a ≠ b) => h.symm)).2 h1
 exact h2.imp fun {a b} hne e => hne (by have:=congrArg (fun x:ByteArray => x.data.toList) e;simpa [nmOf] using this)
theorem loose_has {m:Mp} {s:ByteArray} (h:s ∈ looseM m):∃ t,mget m s = some t:=names_has (List.mem_filter.1 h).1
set_option maxHeartbeats 4000000 in
theorem objCrash (P:Nat → Prop) (w:World) (sb mb N:Nat) (s:So) (h:StR P w sb mb N s) (kA:Option Addr) (kc:Nat) (keep:List Int) (hkeep:∀ wx,Ost sb mb w wx → Rd wx wx.heap.size 1 kA keep.length kc (keep.map (.int .i64))) (hN:N + (looseM s.m).length ≤ 1000000) :
 Calls Tryz.prog 18 #[.pointer (some ⟨sb,0,none⟩),.slice kA keep.length kc] w fun e w' => e = .returned (.tuple #[]) ∧ StR P w' sb mb (N + (looseM s.m).length) (s.crash keep) ∧ Ost sb mb w w':=by
 have hkl:keep.length ≤ 9223372036854775807:=by have hk:=hkeep w (Ost.refl _ _ _);have h1:=hk.le;have h2:=hk.cap;unfold maxLen at h2;omega
 go_enter Tryz.func18,Tryz.ntmps18
 go_wp2_with fail
 refine (objLoose P w sb mb N s h (by omega)).mono ?_
 rintro e w1 ⟨hb1,nA,nc,rfl,hr1,how⟩
 have h1:=h.keep hb1
 have hdist:=loose_dist h.ok.di
 have hall:∀ x ∈ looseM s.m,∃ t,mget s.m x = some t:=fun x hx => loose_has hx
 have hszs:∀ x ∈ looseM s.m,x.size ≤ maxLen:=fun x hx => by obtain ⟨D,hD⟩:=h.mp;exact hD.size (List.mem_filter.1 hx).1 h.ok.di
 obtain ⟨ns,hns⟩:∃ ns,looseM s.m = ns:=⟨_,rfl⟩
 have HC:Hid (s.crash keep = { crashN s ns keep ns.length with dead:=false,fuse := -1,fault := -1 }):=hide (by unfold So.crash;rw [hns])
 have HLEN:Hid (N + (looseM s.m).length = N + ns.length):=hide (by rw [hns])
 rw [hns] at hr1 hdist hall hszs hN ⊢
 have hnl:ns.length ≤ 1000000:=by omega
 have HW:=hide (And.intro hdist (And.intro hall hszs))
 have hsz1:sb < w1.heap.size:=h1.bx.z
 have hmz1:=h1.mlt
 have hnP:=h1.nP
 have hnM:=h1.nM
 have hsb0:sb < w.heap.size:=h.bx.z
 have hmb0:=h.mlt
 have HOW:=hide (Ost.of (sb:=sb) (mb:=mb) hb1)
 clear hns hdist hall hszs h
 go_wp2_with fail
 go_loopw [11] (fun iv wr => ∃ k:Nat,iv = .int .i64 (k:Int) ∧ k ≤ ns.length ∧ StR P wr sb mb (N + k) (crashN s ns keep k) ∧ Ost sb mb w1 wr ∧ Hid (∀ j,k ≤ j → j < ns.length → mget (crashN s ns keep k).m (ns.getD j ByteArray.empty) = mget s.m (ns.getD j ByteArray.empty))) (fun iv _ => ns.length - (intOf iv).toNat)
 case atStart => exact ⟨0,rfl,Nat.zero_le _,h1,Ost.refl _ _ _,hide (fun j _ _ => rfl)⟩
 case round =>
  clear h1
  obtain ⟨k,rfl,hk,hS,hO,hsame⟩:=hrel
  by_cases hlt:k < ns.length
  ·obtain ⟨nm,hnm⟩:∃ nm,ns.getD k ByteArray.empty = nm:=⟨_,rfl⟩
   have hnk:ns[k]? = some nm:=by rw [← hnm,List.getD_eq_getElem?_getD,List.getElem?_eq_getElem hlt];rfl
   have hmem:nm ∈ ns:=List.mem_of_getElem? hnk
   obtain ⟨t,ht0⟩:=HW.out.2.1 nm hmem
   have hnms:=HW.out.2.2 nm hmem
   have ht:mget (crashN s ns keep k).m nm = some t:=by have:=hsame.out k (Nat.le_refl _) hlt;rw [hnm] at this;rw [this];exact ht0
   have hstep:crashN s ns keep (k + 1) = crashAt (crashN s ns keep k) k nm keep:=by rw [← hnm];rfl
   have hnext:Hid (∀ j,k + 1 ≤ j → j < ns.length → mget (crashN s ns keep (k + 1)).m (ns.getD j ByteArray.empty) = mget s.m (ns.getD j ByteArray.empty)):=hide fun j hj hjl => by
    rw [hstep,crashAt_other (fun q => by
     have h2:=(List.pairwise_iff_getElem.1 HW.out.1) k j hlt hjl (by omega)
     rw [getD_at _ _ hjl] at q
     rw [List.getElem?_eq_getElem hlt] at hnk
     injection hnk with hnk
     exact h2 (hnk.trans q.symm))]
    exact hsame.out j (by omega) hjl
   obtain ⟨sk,hsk⟩:∃ sk,crashN s ns keep k = sk:=⟨_,rfl⟩
   rw [hsk] at hS ht hstep
   have HST:=hide hstep
   have hmbw1:mb < w1.heap.size:=hmz1
   have hr:Rd wr w1.heap.size 1 nA ns.length nc (strsV ns):=by
    refine ⟨hr1.len,hr1.le,hr1.cap,fun hn => ?_⟩
    obtain ⟨b,off,e,hb,hc⟩:=hr1.at_ hn
    refine ⟨b,off,e,hb,fun j u hu => (hO.cell hb (fun q => ?_) (fun q => ?_)).trans (hc j u hu)⟩
    ·exact how sb hsb0 (by rw [e];exact congrArg some q.symm)
    ·exact how mb hmb0 (by rw [e];exact congrArg some q.symm)
   have hKr:=hkeep wr (HOW.out.trans hO)
   obtain ⟨b,off,rfl,hb,hc⟩:=hr.at_ (by omega)
   have hcell:=hc k (.string nm) (by unfold strsV;rw [List.getElem?_map,hnk];rfl)
   have hOW:=HOW.out.trans hO
   clear hc hr hnk hmem hnm hstep hsk ht0
   by_cases hlen:keep.length ≤ k
   ·have HF:=hide (HST.out.trans (if_pos (Or.inl hlen)))
    go_wp2_with fail
    refine (objDrop P wr sb mb (N + k) sk hS nm hnms t ht).mono ?_
    rintro e w4 ⟨rfl,h4,O4⟩
    clear hcell
    go_wp2_with fail
    go_roundw
    case rel => exact ⟨k + 1,by go_num,hlt,(by rw [HF.out];exact h4.mono (Nat.le_succ _)),hO.trans O4,hnext⟩
    case measure => simp [intOf];omega
   ·have hlen3:k < keep.length:=by omega
    obtain ⟨kk,hkk⟩:∃ x,keep.getD k 0 = x:=⟨_,rfl⟩
    have hke:keep[k]? = some kk:=by rw [← hkk,List.getD_eq_getElem?_getD,List.getElem?_eq_getElem hlen3];rfl
    obtain ⟨kb,koff,rfl,hkb,hkc⟩:=hKr.at_ (by omega)
    have hkcell:=hkc k (.int .i64 kk) (by rw [List.getElem?_map,hke];rfl)
    clear hkc hke hkeep hKr
    have tk:decide (keep.length ≤ k) = false:=decide_eq_false hlen
    by_cases hneg:kk < 0
    ·have HF:=hide (HST.out.trans (if_pos (Or.inr (by rw [hkk];exact hneg))))
     clear hkk
     go_wp2_with fail
     refine (objDrop P wr sb mb (N + k) sk hS nm hnms t ht).mono ?_
     rintro e w4 ⟨rfl,h4,O4⟩
     clear hcell
     go_wp2_with fail
     go_roundw
     case rel => exact ⟨k + 1,by go_num,hlt,(by rw [HF.out];exact h4.mono (Nat.le_succ _)),hO.trans O4,hnext⟩
     case measure => simp [intOf];omega
    ·have HF:Hid (crashN s ns keep (k + 1) = sk.trunc nm kk.toNat):=hide (by rw [HST.out];unfold crashAt;rw [if_neg (by rw [hkk];omega),hkk])
     clear hkk
     obtain ⟨D,hD⟩:=hS.mp
     obtain ⟨A,c,_,hlk,hrow⟩:=hD.some_ ht hnms
     have c2:=hS.bx.cell 2 _ rfl
     have HT:=hide ht
     have hbA:=(Below.refl wr.heap.size wr).alloc (Nat.le_refl _) (.cells #[.slice A t.bs.length c,.bool t.loose] 131)
     have y:=boxN_new wr #[.slice A t.bs.length c,.bool t.loose] 131
     clear hD hlen
     have tneg:decide (kk < 0) = false:=decide_eq_false hneg
     go_upto_region 6 with fail
     have hO2:=hO.trans (Ost.of (sb:=sb) (mb:=mb) hbA)
     have hS2:=hS.keep hbA
     have hrow2:=hrow.low hbA
     have hyb0:wr.heap.size ≠ sb ∧ wr.heap.size ≠ mb:=⟨by have:=hO.size;omega,by have:=hO.size;omega⟩
     have hkcell2:=(hbA.cell (p:=⟨kb,koff + k,none⟩) hkb).trans hkcell
     generalize wr.alloc (.cells #[.slice A t.bs.length c,.bool t.loose] 131) = w2 at *
     generalize wr.heap.size = yb at *
     clear hS hO hlk hcell hb c2 hbA hkcell hkb hrow hOW
     have y0:=y.cell 0 _ rfl
     go_quiet (fail)
     have hb3:Below w2.heap.size w2 (w2.drewN nq):=below_dN (Below.refl _ _) _
     have hS3:=hS2.keep hb3
     have hrow3:=hrow2.low hb3
     have y3:=y.keep hb3 y.z
     have hO3:=hO2.trans (Ost.of (sb:=sb) (mb:=mb) hb3)
     generalize w2.drewN nq = w3 at *
     obtain ⟨mn,hmn⟩:∃ x,(t.bs.take kk.toNat).length = x:=⟨_,rfl⟩
     have hmin:min kk (t.bs.length:Int) = (mn:Int):=by rw [← hmn,List.length_take];omega
     have hmle:mn ≤ t.bs.length:=by rw [← hmn,List.length_take];omega
     rw [hmin]
     have hcl:=hrow3.rd.le
     have hcc:=hrow3.rd.cap
     have hdl:=mget_len hS3.ok.di HT.out
     have hu:=hS3.ok.us
     have huq:=hS3.ok.uq
     have hq1:=hS3.ok.q1
     have w52:wrap64 ((t.bs.length:Int) - (mn:Int)) = (t.bs.length:Int) - (mn:Int):=IntWalk.wrap64_in _ ⟨by omega,by omega⟩
     have w53:wrap64 (sk.used - ((t.bs.length:Int) - (mn:Int))) = sk.used - ((t.bs.length:Int) - (mn:Int)):=IntWalk.wrap64_in _ ⟨by omega,by omega⟩
     have c1:=hS3.bx.cell 1 _ rfl
     have f1:=hS3.bx.free 1 (by simp)
     have y03:=y3.cell 0 _ rfl
     have HMN:=hide hmn
     obtain ⟨D3,hD3⟩:=hS3.mp
     have hne:=hS3.ne
     clear hS2 hrow2 y0 hb3 y hO2 hkcell2 hmin hdl hu huq hq1 hmn hneg tneg
     go_upto_region 7 with fail
     go_region
     have O4:=((Oth.refl sb w3).set 1 (.int .i64 (sk.used - ((t.bs.length:Int) - (mn:Int))))).drew
     have x4:=(hS3.bx.set (j:=1) (.int .i64 (sk.used - ((t.bs.length:Int) - (mn:Int)))) rfl).oth (Oth.refl (sb + 1) _).drew (by omega)
     have hD4:=hD3.move O4.size (O4.block mb hD3.lt (fun q => hne q.symm)) (fun p hp hl => O4.cell hl (fun q => hnP (by rw [← q];exact hp)))
     have y4:=y3.oth O4 hyb0.1
     have hrow4:=hrow3.keep O4.size (fun p hp hl => O4.cell hl (fun q => hnP (by rw [← q];exact hp)))
     have hO4:=hO3.trans (Ost.ofOth (mb:=mb) O4)
     have HK:=hide hS3.ok
     generalize (w3.setCell ⟨sb,1,none⟩ (.int .i64 (sk.used - ((t.bs.length:Int) - (mn:Int))))).drew = w4 at *
     clear hS3 hrow3 hO3 O4 hD3 y3 c1 f1 y03 w52 w53
     go_upto_region 8 with fail
     have hbd:=(Below.refl w4.heap.size w4).drew
     have x4d:=x4.keep hbd x4.z
     have k2:=x4d.cell 2 _ rfl
     have y4d:=y4.keep hbd y4.z
     have y0:=y4d.cell 0 _ rfl
     have hrowP:=(hrow4.low hbd).pre kk.toNat
     obtain ⟨w5,D5,hrun,hD5,hg5⟩:=(hD4.keep hbd).put (lo:=false) (s:=nm) (by omega) hnms hrowP
     rw [HMN.out] at hrun
     have hcut:=run_cut_max tyBytes A t.bs.length c .i64 (mn:Int) mn rfl (by omega)
     have hcut2:=cut_max tyBytes A t.bs.length c .i64 (mn:Int) mn rfl (by omega)
     have hyb5:w5.heap[yb]? = w4.drew.heap[yb]?:=hg5.block yb y4d.z (by intro q;injection q with q;exact hyb0.2 q)
     have hsb5:w5.heap[sb]? = w4.drew.heap[sb]?:=hg5.block sb x4d.z (by intro q;injection q with q;exact hne q)
     have z0:=(World.cell?_of_block (w:=w4.drew) (a:=⟨yb,0,none⟩) hyb5).trans y0
     have j2:=(World.cell?_of_block (w:=w4.drew) (a:=⟨sb,2,none⟩) hsb5).trans k2
     have x5:BoxN w5 sb [.int .i64 sk.quota,.int .i64 (sk.used - ((t.bs.length:Int) - (mn:Int))),.map (some mb),.string sk.cell,.int .i64 sk.fuse,.int .i64 sk.fault,.bool sk.dead]:=⟨fun j v hj => (World.cell?_of_block (w:=w4.drew) (a:=⟨sb,j,none⟩) hsb5).trans (x4d.cell j v hj),fun j hj => (World.frozen?_of_block (w:=w4.drew) (a:=⟨sb,j,none⟩) hsb5).trans (x4d.free j hj),Nat.lt_of_lt_of_le x4d.z hg5.size⟩
     have HOK:=hide (HK.out.trunc HT.out kk.toNat)
     rw [So.trunc_some HT.out,HMN.out] at HF HOK
     have HS5:Hid (StR P w5 sb mb (N + (k + 1)) { sk with m:=mput sk.m nm ⟨t.bs.take kk.toNat,false⟩,used:=sk.used - ((t.bs.length:Int) - (mn:Int)) }):=hide ⟨x5,⟨D5,hD5⟩,hnP,hne,HOK.out⟩
     have HO5:=hide (hO4.trans ((Ost.of (sb:=sb) (mb:=mb) hbd).trans (Ost.map hg5)))
     clear x4 x4d hD4 y4 y4d hrow4 hrowP hO4 hyb5 hsb5 x5 hD5 hg5 hbd
     refine wp_region_held_drew (S:=fun w' => w'.cell? ⟨sb,2,none⟩ = some (.map (some mb)) ∧ w'.cell? ⟨yb,0,none⟩ = some (.slice A t.bs.length c)) (by kernel_rfl) ?_ (fun hHeld => ?_)
     ·exact ⟨k2,y0⟩
     refine wpAnyH_take (i:=0) (v:=?_) rfl (by kernel_rfl) (by kernel_rfl) (by kernel_rfl) (fun _ _ _ h => h) (Or.inl ⟨by rfl,?_⟩) hHeld ?_
     rotate_left 1
     ·(intro w' hSw;go_simp;first | done | with_reducible rfl)
     (try simp only [Act.put,zA0])
     refine wpAnyH_take (i:=1) (v:=?_) rfl (by kernel_rfl) (by kernel_rfl) (by kernel_rfl) (fun _ _ _ h => h) (Or.inl ⟨by rfl,?_⟩) hHeld ?_
     rotate_left 1
     ·(intro w' hSw;go_simp;first | done | with_reducible rfl)
     (try simp only [Act.put])
     refine wpAnyH_take (i:=2) (v:=?_) rfl (by kernel_rfl) (by kernel_rfl) (by kernel_rfl) (fun _ _ _ h => h) (Or.inl ⟨by rfl,?_⟩) hHeld ?_
     rotate_left 1
     ·(intro w' hSw;go_simp;first | done | with_reducible rfl)
     (try simp only [Act.put])
     refine wpAnyH_take (i:=3) (v:=?_) rfl (by kernel_rfl) (by kernel_rfl) (by kernel_rfl) (fun _ _ _ h => h) (Or.inl ⟨by rfl,?_⟩) hHeld ?_
     rotate_left 1
     ·(intro w' hSw;obtain ⟨q2,r0⟩:=hSw;go_simp;first | done | with_reducible rfl)
     (try simp only [Act.put])
     refine wpAnyH_take (i:=4) (v:=?_) rfl (by kernel_rfl) (by kernel_rfl) (by kernel_rfl) (fun _ _ _ h => h) (Or.inl ⟨by rfl,?_⟩) hHeld ?_
     rotate_left 1
     ·(intro w' hSw;go_simp;first | done | with_reducible rfl)
     (try simp only [Act.put])
     refine wpAnyH_take (i:=5) (v:=?_) rfl (by kernel_rfl) (by kernel_rfl) (by kernel_rfl) (fun _ _ _ h => h) (Or.inl ⟨by rfl,?_⟩) hHeld ?_
     rotate_left 1
     ·(intro w' hSw;go_simp;first | done | with_reducible rfl)
     (try simp only [Act.put])
     refine wpAnyH_take (i:=6) (v:=?_) rfl (by kernel_rfl) (by kernel_rfl) (by kernel_rfl) (fun _ _ _ h => h) (Or.inl ⟨by rfl,?_⟩) hHeld ?_
     rotate_left 1
     ·(intro w' hSw;obtain ⟨q2,r0⟩:=hSw;go_simp;first | done | with_reducible rfl)
     (try simp only [Act.put])
     refine wpAnyH_take (i:=7) (v:=?_) rfl (by kernel_rfl) (by kernel_rfl) (by kernel_rfl) (fun _ _ _ h => h) (Or.inl ⟨by rfl,?_⟩) hHeld ?_
     rotate_left 1
     ·(intro w' hSw;go_simp;first | done | with_reducible rfl)
     (try simp only [Act.put])
     refine wpAnyH_take (i:=8) (v:=?_) rfl (by kernel_rfl) (by kernel_rfl) (by kernel_rfl) (fun _ _ _ h => h) (Or.inl ⟨by rfl,?_⟩) hHeld ?_
     rotate_left 1
     ·(intro w' hSw;go_simp;first | done | with_reducible rfl)
     (try simp only [Act.put])
     refine wpAnyH_take (i:=9) (v:=?_) rfl (by kernel_rfl) (by kernel_rfl) (by kernel_rfl) (fun _ _ _ h => h) (Or.inl ⟨by rfl,?_⟩) hHeld ?_
     rotate_left 1
     ·(intro w' hSw;go_simp;first | done | with_reducible rfl)
     (try simp only [Act.put])
     refine wpAnyH_take (i:=10) (v:=?_) rfl (by kernel_rfl) (by kernel_rfl) (by kernel_rfl) (fun _ _ _ h => h) (Or.inl ⟨by rfl,?_⟩) hHeld ?_
     rotate_left 1
     ·(intro w' hSw;go_simp;first | done | with_reducible rfl)
     (try simp only [Act.put])
     refine wpAnyH_ready (rs:=[11]) (by kernel_rfl) (by simp) ?_
     refine AllReadyH.cons rfl (fun K hK => ?_) AllReadyH.nil
     go_simp
     refine hK.out _ _ ⟨j2,z0⟩ (fun hHeld => ?_)
     clear hK K
     (try simp only [Act.put,zA0,zB0,zC0])
     refine wpAnyH_done (by kernel_rfl) ?_ _
     go_wp2_with fail
     go_roundw
     case rel => exact ⟨k + 1,by go_num,hlt,(by rw [HF.out];exact HS5.out),HO5.out,hnext⟩
     case measure => simp [intOf];omega
  ·obtain rfl:k = ns.length:=by omega
   have hOW:=HOW.out.trans hO
   obtain ⟨sk,hsk⟩:∃ x,crashN s ns keep ns.length = x:=⟨_,rfl⟩
   rw [hsk] at hS HC
   have c4:=hS.bx.cell 4 _ rfl
   have c5:=hS.bx.cell 5 _ rfl
   have c6:=hS.bx.cell 6 _ rfl
   have f4:=hS.bx.free 4 (by simp)
   have f5:=hS.bx.free 5 (by simp)
   have f6:=hS.bx.free 6 (by simp)
   have HSB:=hide hS
   clear hsame hkeep hsk hS
   go_wp2_with fail
   go_end0
   obtain ⟨a,b,c,d,e,f,g,i,j⟩:=HSB.out.ok
   rw [HC.out,HLEN.out]
   have ho:=(((Oth.refl sb wr).set 6 (.bool false)).set 4 (.int .i64 (-1))).set 5 (.int .i64 (-1))
   exact ⟨rfl,HSB.out.box (s2 := { sk with dead:=false,fuse := -1,fault := -1 }) ho rfl ⟨a,b,c,d,(by show (-1:Int) ≤ -1;omega),(by show (-1:Int) ≤ 9223372036854775807;omega),(by show (-1:Int) ≤ -1;omega),(by show (-1:Int) ≤ 9223372036854775807;omega),j⟩ (((HSB.out.bx.set (j:=6) (.bool false) rfl).set (j:=4) (.int .i64 (-1)) rfl).set (j:=5) (.int .i64 (-1)) rfl),hOW.trans (.ofOth ho)⟩


def So.small (s:So):Prop := ∀ p ∈ s.m,p.2.bs.length ≤ 65536
structure SoLe (k:Nat) (s s2:So):Prop where
 len:s2.m.length ≤ s.m.length + k
 quota:s2.quota = s.quota
 small:s.small → s2.small
theorem SoLe.refl (k:Nat) (s:So):SoLe k s s:=⟨Nat.le_add_right _ _,rfl,id⟩
theorem SoLe.of {k:Nat} {s s2:So} (hm:s2.m = s.m) (hq:s2.quota = s.quota):SoLe k s s2:=⟨by rw [hm];omega,hq,fun h p hp => h p (by rw [← hm];exact hp)⟩
theorem SoLe.trans {a b:Nat} {s t u:So} (h:SoLe a s t) (k:SoLe b t u):SoLe (a + b) s u:=⟨by have:=h.len;have:=k.len;omega,k.quota.trans h.quota,fun q => k.small (h.small q)⟩
theorem le_change (k:Nat) (s:So):SoLe k s s.change.1:=.of s.change_m s.change_quota
theorem mem_put {m:Mp} {nm:ByteArray} {t:Th} {p:ByteArray × Th} (h:p ∈ mput m nm t):p ∈ m ∨ p = (nm,t):=by
 unfold mput at h
 rcases List.mem_append.1 h with q | q
 ·exact .inl (mdel_mem.1 q).1
 ·exact .inr (List.mem_singleton.1 q)
theorem le_add (s:So) (nm:ByteArray) (bs:List UInt8) (h:bs.length ≤ 65536):SoLe 1 s (s.add nm bs) :=
 ⟨mput_len _ _ _,rfl,fun hs p hp => by
  rcases mem_put hp with q | q
  ·exact hs p q
  ·rw [q];exact h⟩
theorem le_put (s:So) (nm:ByteArray) (bs:List UInt8):SoLe 1 s (s.put nm bs).1:=by
 unfold So.put
 split
 ·exact .refl _ _
 split
 ·exact .refl _ _
 split
 ·exact .refl _ _
 split
 ·exact .refl _ _
 split
 ·exact .refl _ _
 split
 ·exact le_change _ _
 ·exact (le_change 0 s).trans (le_add _ nm bs (by omega))
theorem del_lt {m:Mp} {nm:ByteArray} {t:Th} (h:mget m nm = some t):(mdel m nm).length + 1 ≤ m.length:=by
 have h1:=mget_mem h
 unfold mdel
 induction m with
 | nil => cases h1
 | cons p m ih =>
   rw [List.filter_cons]
   cases hk:keyIs nm p with
   | true =>
     have:=List.length_filter_le (fun p => !keyIs nm p) m
     simp only [Bool.not_true,Bool.false_eq_true,if_false,List.length_cons]
     omega
   | false =>
     have h2:mget m nm = some t:=by
      have:mget (p :: m) nm = mget m nm:=by unfold mget;rw [List.find?_cons,hk]
      rw [← this];exact h
     have:=ih h2 (mget_mem h2)
     simp only [Bool.not_false,if_true,List.length_cons]
     omega
theorem le_turn (k:Nat) {s:So} {nm:ByteArray} {t:Th} (h:mget s.m nm = some t) (u:Th) (hu:u.bs.length ≤ t.bs.length) {x:Int}:SoLe k s { s with m:=mput s.m nm u,used:=x } :=
 ⟨by
  show (mdel s.m nm ++ [(nm,u)]).length ≤ _
  have:=del_lt h
  rw [List.length_append,List.length_singleton]
  omega,rfl,fun hs p hp => by
  rcases mem_put hp with q | q
  ·exact hs p q
  ·rw [q]
   exact Nat.le_trans hu (hs _ (mget_mem h))⟩
theorem le_sync (s:So) (nm:ByteArray):SoLe 1 s (s.sync nm).1:=by
 unfold So.sync
 split
 ·exact .refl _ _
 split
 ·exact .refl _ _
 ·rename_i t ht
  split
  ·have hm:mget s.change.1.m nm = some t:=by rw [s.change_m];exact ht
   have h2:SoLe 1 s.change.1 { s.change.1 with m:=mput s.change.1.m nm ⟨t.bs,false⟩ }:=le_turn 1 hm ⟨t.bs,false⟩ (Nat.le_refl _) (x:=s.change.1.used)
   exact (le_change 0 s).trans (b:=1) h2
  ·exact le_change _ _
theorem le_swap (s:So) (o nw:ByteArray):SoLe 1 s (s.swap o nw).1:=by
 unfold So.swap
 split
 ·exact .refl _ _
 split
 ·exact .refl _ _
 split
 ·exact .refl _ _
 split
 ·have h2:SoLe 1 s.change.1 { s.change.1 with cell:=nw }:=.of rfl rfl
  exact (le_change 0 s).trans (b:=1) h2
 ·exact le_change _ _
theorem small_at {s:So} (h:s.small) {nm:ByteArray}:∀ t,mget s.m nm = some t → t.bs.length ≤ 1000000:=fun t ht => by
 have:=h _ (mget_mem ht)
 simp only at this
 omega


structure So.calm (s:So):Prop where
 dead:s.dead = false
 fuse:s.fuse = -1
 fault:s.fault = -1
theorem mem_names {m:Mp} {p:ByteArray × Th} (h:p ∈ m):p.1 ∈ namesM m:=by
 unfold namesM
 rw [List.mem_map]
 refine ⟨p.1.data.toList,(List.mergeSort_perm _ _).mem_iff.2 ?_,nmOf_data _⟩
 unfold keysM
 exact List.mem_map.2 ⟨p,h,rfl⟩


def ListEnd (w:World) (l:List ByteArray) (c:Nat) (e:Ending) (w':World):Prop :=
 Below w.heap.size w w' ∧ ∃ A k,e = .returned (.tuple #[.slice A l.length k,.int .i64 (c:Int)]) ∧ Rd w' w'.heap.size 1 A l.length k (strsV l) ∧ ∀ b,b < w.heap.size → some b ≠ (Value.slice A l.length k).ownBlock
def So.list (s:So):List ByteArray × Nat:=if s.dead = true then ([],120) else (namesM s.m,0)
theorem So.list_dead {s:So} (h:s.dead = true):s.list = ([],120):=if_pos h
theorem So.list_on {s:So} (h:s.dead = false):s.list = (namesM s.m,0):=if_neg (by rw [h];simp)
set_option maxHeartbeats 4000000 in
theorem objList (P:Nat → Prop) (w:World) (sb mb N:Nat) (s:So) (h:StR P w sb mb N s) (hN:N ≤ 1000000) :
 Calls Tryz.prog 17 #[.pointer (some ⟨sb,0,none⟩)] w (ListEnd w s.list.1 s.list.2):=by
 have c6:=h.bx.cell 6 _ rfl
 have c2:=h.bx.cell 2 _ rfl
 cases hd:s.dead with
 | true =>
   rw [hd] at c6
   have HG:=hide (So.list_dead hd)
   clear hd
   go_enter Tryz.func17,Tryz.ntmps17
   go_wp2_with fail
   go_ret2
   rw [HG.out]
   exact ⟨Below.refl _ _,none,0,rfl,Rd.nil _ _ _,fun b _ q => by cases q⟩
 | false =>
 rw [hd] at c6
 have HG:=hide (So.list_on hd)
 clear hd
 obtain ⟨D,hD⟩:=h.mp
 have hsz:=hD.own.size_le
 have hperm:=hD.keys h.ok.di
 go_enter Tryz.func17,Tryz.ntmps17
 go_wp2_with fail
 refine (callsIn_wide.1 (maps_Keys_35 (some mb) w)).mono ?_
 rintro e w1 ⟨rfl,rfl⟩
 have hb1:=(Below.refl w.heap.size w).alloc (Nat.le_refl _) (.cells #[.map (some mb)] 104)
 go_wp2_with fail
 refine (callsIn_wide.1 (slices_Sorted_keys_34_35 mb N D elR w hD.own (by unfold maxLen;omega) (by omega))).mono ?_
 rintro e w2 ⟨v2,ss,rfl,hss,hown2,_,hb2⟩
 have hsort:ss.mergeSort leB = (keysM s.m).mergeSort leB:=mergeSort_of_perm (hss.trans hperm.symm)
 have hssl:ss.length = (namesM s.m).length:=by unfold namesM;rw [List.length_map, ← hsort,List.length_mergeSort]
 have hrow:(ss.mergeSort fun x y => decide (x ≤ y)).map Go.Proofs.encStr = strsV (namesM s.m):=by
  show (ss.mergeSort leB).map Go.Proofs.encStr = _
  rw [hsort]
  unfold strsV namesM
  rw [List.map_map]
  rfl
 rw [hrow,hssl] at hown2
 obtain ⟨A2,c2',rfl⟩:=own_slice hown2
 have hr2:=rd_own hown2
 have hB2:=below_call hb1 hb1.size hb2
 have hne:=fun b hb => row_ne_low (b:=b) hown2 (Nat.lt_of_lt_of_le hb hb1.size)
 have HX:=hide (And.intro hr2 (And.intro hB2 hne))
 clear hr2 hB2 hne hown2 hrow hssl hsort hss hb1 hb2 hperm hD hsz c2 h
 go_wp2_with fail
 go_ret2
 rw [HG.out]
 exact ⟨HX.out.2.1,_,_,rfl,HX.out.1,HX.out.2.2⟩

section
open Go.RowKit

instance:Inhabited Fd:=⟨⟨0,ByteArray.empty,0,false⟩⟩
section
variable {l:List Fd} {k:Nat} {f:Fd} (hf:l.getD k default = f)
include hf
end
/-! ### a schema with a field more -/
theorem errFrom_le (l:List Fd):∀ b i,errFrom l b i ≤ 82:=by
 intro b
 induction b with
 | zero => intro i;simp [errFrom]
 | succ b ih =>
   intro i
   unfold errFrom
   split
   ·exact ih _
   ·unfold errAt;dsimp only;repeat' split
    all_goals omega
theorem check_le (id:UInt32) (l:List Fd):check id l ≤ 82:=by
 unfold check
 split
 ·omega
 ·exact errFrom_le _ _ _
section
variable {id:UInt32} {l:List Fd} {name:ByteArray} {k:Nat}
theorem add_check (h:check id l ≠ 0):addErr id l name k = check id l ∧ addId id l name k = 0 ∧ addFds id l name k = []:=by
 have e:addErr id l name k = check id l:=by unfold addErr;rw [if_pos h]
 refine ⟨e,?_,?_⟩
 ·unfold addId;rw [e,if_neg h]
 ·unfold addFds;rw [e,if_neg h]
theorem add_4 (h:check id l = 0) (h2:l.length = 8 ∨ lastId l = 4294967295 ∨ id.toNat = 4294967295):addErr id l name k = 4 ∧ addId id l name k = 0 ∧ addFds id l name k = []:=by
 have e:addErr id l name k = 4:=by unfold addErr;rw [if_neg (by rw [h];simp),if_pos h2]
 refine ⟨e,?_,?_⟩
 ·unfold addId;rw [e];rfl
 ·unfold addFds;rw [e];rfl
theorem add_80 (h:check id l = 0) (h2:¬ (l.length = 8 ∨ lastId l = 4294967295 ∨ id.toNat = 4294967295)) (h3:(!named name || hasName l name) = true):addErr id l name k = 80 ∧ addId id l name k = 0 ∧ addFds id l name k = []:=by
 have e:addErr id l name k = 80:=by unfold addErr;rw [if_neg (by rw [h];simp),if_neg h2,if_pos h3]
 refine ⟨e,?_,?_⟩
 ·unfold addId;rw [e];rfl
 ·unfold addFds;rw [e];rfl
theorem add_10 (h:check id l = 0) (h2:¬ (l.length = 8 ∨ lastId l = 4294967295 ∨ id.toNat = 4294967295)) (h3:(!named name || hasName l name) = false) (h4:k < 1 ∨ 3 < k):addErr id l name k = 10 ∧ addId id l name k = 0 ∧ addFds id l name k = []:=by
 have e:addErr id l name k = 10:=by unfold addErr;rw [if_neg (by rw [h];simp),if_neg h2,if_neg (by rw [h3];simp),if_pos h4]
 refine ⟨e,?_,?_⟩
 ·unfold addId;rw [e];rfl
 ·unfold addFds;rw [e];rfl
theorem add_0 (h:check id l = 0) (h2:¬ (l.length = 8 ∨ lastId l = 4294967295 ∨ id.toNat = 4294967295)) (h3:(!named name || hasName l name) = false) (h4:¬ (k < 1 ∨ 3 < k)):addErr id l name k = 0 ∧ addId id l name k = UInt32.ofNat (id.toNat + 1) ∧ addFds id l name k = l ++ [newFd l name k]:=by
 have e:addErr id l name k = 0:=by unfold addErr;rw [if_neg (by rw [h];simp),if_neg h2,if_neg (by rw [h3];simp),if_neg h4]
 refine ⟨e,?_,?_⟩
 ·unfold addId;rw [e];rfl
 ·unfold addFds;rw [e];rfl
end
theorem newFd_V (l:List Fd) (name:ByteArray) (k:Nat) (h:lastId l + 1 < 4294967296) (hk:k < 256):fdV (newFd l name k) = [.int .u32 ((lastId l + 1:Nat):Int),.string name,.int .u8 (k:Int),.bool false]:=by
 unfold newFd fdV
 rw [ofNat32 h,ofNat8 hk]
end


/-- 'g.Name == name', name in a box -/
theorem predName2 (w:World) (bf:Nat) (s:ByteArray) (hbf:bf < w.heap.size) (hc:w.cell? ⟨bf,0,none⟩ = some (.string s)) :
 PredF w 157 #[.pointer (some ⟨bf,0,none⟩)] (fun f => f.name.toList == s.toList):=fun W f hb => by
 have h1:=(hb.cell (p:=⟨bf,0,none⟩) hbf).trans hc
 have hBW:bf < W.heap.size:=Nat.lt_of_lt_of_le hbf hb.size
 have hne:bf ≠ W.heap.size:=Nat.ne_of_lt hBW
 show Calls Tryz.prog 157 #[.agg #[.int .u32 (f.id.toNat:Int),.string f.name,.int .u8 (f.kind.toNat:Int),.bool f.need],.pointer (some ⟨bf,0,none⟩)] W _
 clear hc
 go_enter Tryz.func157,Tryz.ntmps157
 go_wp2_with fail
 go_ret
 exact ⟨rfl,hb.alloc hb.size _⟩
theorem enter53:∀ args w,(callFunc 157 args).run Tryz.prog w = .ok (.enter 157 args) w:=enters_of Tryz.func157 (by kernel_rfl) rfl


theorem set2a (W:World) (b:Nat) (u v x y:Value) (hb:b < W.heap.size) (c0:W.cell? ⟨b,0,none⟩ = some u) (c1:W.cell? ⟨b,1,none⟩ = some v) (o:Obj) :
 (((W.setCell ⟨b,0,none⟩ x).setCell ⟨b,1,none⟩ y).alloc o).cell? ⟨b,0,none⟩ = some x ∧ (((W.setCell ⟨b,0,none⟩ x).setCell ⟨b,1,none⟩ y).alloc o).cell? ⟨b,1,none⟩ = some y:=by
 obtain ⟨h0,h1⟩:=set2 W b u v x y c0 c1
 have hs:((W.setCell ⟨b,0,none⟩ x).setCell ⟨b,1,none⟩ y).heap.size = W.heap.size:=by simp
 have hB:=(Below.refl ((W.setCell ⟨b,0,none⟩ x).setCell ⟨b,1,none⟩ y).heap.size ((W.setCell ⟨b,0,none⟩ x).setCell ⟨b,1,none⟩ y)).alloc (Nat.le_refl _) o
 exact ⟨(hB.cell (p:=⟨b,0,none⟩) (by rw [hs];exact hb)).trans h0,(hB.cell (p:=⟨b,1,none⟩) (by rw [hs];exact hb)).trans h1⟩
/-- one field, of which a slice was made -/
def LitF (xs:List Value) (v:Value) (w:World):Prop := ∃ A,v = .slice A 1 1 ∧ Rd w w.heap.size 4 A 1 1 xs
theorem mono_litF (xs:List Value):(Slot.has (LitF xs)).mono Ext:=fun _ _ _ he ⟨A,e,h⟩ => ⟨A,e,(h.below he).more he.size⟩
theorem litF_new (w:World) (cs:Array Value) {xs:List Value} (h:cs.toList = xs) (hs:cs.size = 1 * 4):(Slot.has (LitF xs)).holds (.slice (some ⟨w.heap.size,0,none⟩) 1 1) (w.alloc (.cells cs 89)):=by
 refine ⟨_,rfl,?_⟩
 have:=Rd.lit w 89 cs (n:=1) (sz:=4) hs (by decide)
 rw [h] at this
 exact this.more (by simp)

set_option maxHeartbeats 2000000 in
theorem schAdd (w:World) (id:UInt32) (n c:Nat) (A:Option Addr) (l:List Fd) (hr:Rd w w.heap.size 4 A n c (fdsV l)) (name:ByteArray) (k:Nat) (hk:k < 256) :
 Calls Tryz.prog 91 #[.agg #[.int .u32 (id.toNat:Int),.slice A n c],.string name,.int .u8 (k:Int)] w (AddEnd w id l name k):=by
 obtain rfl:=hr.lenF
 have hidb:id.toNat < 4294967296:=id.toNat_lt
 go_enter Tryz.func91,Tryz.ntmps91
 go_wp2_with fail
 have x1:=box_new w #[.int .u32 (id.toNat:Int),.slice A l.length c] 33
 generalize hwa:w.alloc (.cells #[.int .u32 (id.toNat:Int),.slice A l.length c] 33) = wa at *
 have x2:=box_new wa #[.string name] 9
 generalize hwb:wa.alloc (.cells #[.string name] 9) = wb at *
 have x3:=box_new wb #[.int .u32 0,.slice none 0 0] 33
 generalize hwc:wb.alloc (.cells #[.int .u32 0,.slice none 0 0] 33) = w2 at *
 have za:=x1.size
 have zb:=x2.size
 obtain ⟨cs,_,zs,hb2⟩:=x1.lift (below_call x2.below x2.below.size x3.below)
 obtain ⟨cn,_,zn,_⟩:=x2.lift x3.below
 obtain ⟨cr,fr,zr,_⟩:=x3.lift (Below.refl _ _)
 have s0:=cs 0 _ rfl
 have s1:=cs 1 _ rfl
 have n0:=cn 0 _ rfl
 have r0:=cr 0 _ rfl
 have r1:=cr 1 _ rfl
 have rf0:=fr 0
 have rf1:=fr 1
 have hr2:=(hr.below hb2).more hb2.size
 rw [show w.heap.size + 1 + 1 = wb.heap.size by omega,show w.heap.size + 1 = wa.heap.size by omega]
 have zbr:w.heap.size ≤ wb.heap.size:=by omega
 generalize hbs:w.heap.size = bs at *
 generalize hbn:wa.heap.size = bn at *
 generalize hbr:wb.heap.size = br at *
 have HZ:=hide (And.intro hbs (And.intro hbn hbr))
 clear hwa hwb hwc cs cn cr fr x1 x2 x3 za zb hbs hbn hbr
 refine (schCheck w2 id _ c A l hr2).mono ?_
 rintro e w3 ⟨rfl,hb3⟩
 have hB3:Below bs w w3:=below_call hb2 (Nat.le_of_lt zs) hb3
 have s0':=(hb3.cell (p:=⟨bs,0,none⟩) zs).trans s0
 have s1':=(hb3.cell (p:=⟨bs,1,none⟩) zs).trans s1
 have n0':=(hb3.cell (p:=⟨bn,0,none⟩) zn).trans n0
 have r0':=(hb3.cell (p:=⟨br,0,none⟩) zr).trans r0
 have r1':=(hb3.cell (p:=⟨br,1,none⟩) zr).trans r1
 have rf0':=(hb3.frozen (p:=⟨br,0,none⟩) zr).trans rf0
 have rf1':=(hb3.frozen (p:=⟨br,1,none⟩) zr).trans rf1
 have hr3:=(hr2.below hb3).more hb3.size
 have zs3:bs < w3.heap.size:=Nat.lt_of_lt_of_le zs hb3.size
 have zn3:bn < w3.heap.size:=Nat.lt_of_lt_of_le zn hb3.size
 have zr3:br < w3.heap.size:=Nat.lt_of_lt_of_le zr hb3.size
 clear s0 s1 n0 r0 r1 rf0 rf1 hr2 zs zn zr hb3 hb2
 have hcle:=check_le id l
 have sa3:w3.cell? ⟨bs,0,none⟩ = some (.int .u32 (id.toNat:Int)):=s0'
 have sb3:w3.cell? ⟨bs,1,none⟩ = some (.slice A l.length c):=s1'
 have na3:w3.cell? ⟨bn,0,none⟩ = some (.string name):=n0'
 have r03:w3.cell? ⟨br,0,none⟩ = some (.int .u32 0):=r0'
 have r13:w3.cell? ⟨br,1,none⟩ = some (.slice none 0 0):=r1'
 have f03:=rf0'
 have f13:=rf1'
 clear s0' s1' n0' r0' r1' rf0' rf1'
 by_cases hck:check id l = 0
 ·obtain ⟨hid1,hl1,hl8⟩:=check_len hck
  have t1:((check id l:Int) != 0) = false:=by rw [hck];rfl
  have HCK:=hide hck
  obtain ⟨m,hm⟩:∃ m,m = l.length - 1:=⟨_,rfl⟩
  have hml:m < l.length:=by omega
  have hm1:((l.length:Int) - 1) = (m:Int):=by omega
  obtain ⟨b,off,rfl,hb,f0,f1,f2,f3⟩:=hr3.fd hml
  obtain ⟨f,hff⟩:∃ f,f = l.getD m default:=⟨_,rfl⟩
  rw [← hff] at f0 f1 f2 f3
  have hlid:lastId l = f.id.toNat:=by unfold lastId;rw [← hm, ← hff]
  have hlidb:f.id.toNat < 4294967296:=f.id.toNat_lt
  clear hm hff hcle
  generalize check id l = ck at t1
  obtain ⟨lid,hld⟩:∃ lid,lid = f.id.toNat:=⟨_,rfl⟩
  rw [← hld] at f0 hlid hlidb
  have HLD:=hide hlid
  clear hlid hld
  have hBsz:=hB3.size
  have hzz:bs ≤ w3.heap.size:=Nat.le_of_lt zs3
  by_cases g8:l.length = 8
  ·have y1:decide ((8:Int) ≤ (l.length:Int)) = true:=decide_eq_true (by omega)
   obtain ⟨q1,q2,q3⟩:=add_4 (name:=name) (k:=k) HCK.out (by left;exact g8)
   have HG:=hide g8
   clear g8
   have HQ:=hide (And.intro q1 (And.intro q2 q3))
   clear q1 q2 q3
   go_wp2_with fail
   (try simp only [Exit.inBlock,Exit.then])
   refine bodyPost_ret (ret_sch (b:=br) (x:=.int .u32 0) (y:=.slice none 0 0) rfl _ _ rfl (set2a w3 br _ _ _ _ zr3 r03 r13 _).1 (set2a w3 br _ _ _ _ zr3 r03 r13 _).2) rfl ?_
   exact AddEnd.bad HQ.out.1 HQ.out.2.1 HQ.out.2.2 (by rw [HZ.out.1];first | exact (below_set2 hB3 br zbr _ _).alloc (by simp;omega) _)
  ·have y1:decide ((8:Int) ≤ (l.length:Int)) = false:=decide_eq_false (by omega)
   by_cases gl:lid = 4294967295
   ·have y2:((lid:Int) == 4294967295) = true:=by rw [beq_iff_eq];omega
    obtain ⟨q1,q2,q3⟩:=add_4 (name:=name) (k:=k) HCK.out (by right;left;rw [HLD.out];exact gl)
    have HQ:=hide (And.intro q1 (And.intro q2 q3))
    clear q1 q2 q3
    have HG:=hide gl
    clear gl
    go_wp2_with fail
    (try simp only [Exit.inBlock,Exit.then])
    refine bodyPost_ret (ret_sch (b:=br) (x:=.int .u32 0) (y:=.slice none 0 0) rfl _ _ rfl (set2a w3 br _ _ _ _ zr3 r03 r13 _).1 (set2a w3 br _ _ _ _ zr3 r03 r13 _).2) rfl ?_
    exact AddEnd.bad HQ.out.1 HQ.out.2.1 HQ.out.2.2 (by rw [HZ.out.1];first | exact (below_set2 hB3 br zbr _ _).alloc (by simp;omega) _)
   ·have y2:((lid:Int) == 4294967295) = false:=by rw [beq_eq_false_iff_ne];omega
    by_cases gi:id.toNat = 4294967295
    ·have y3:((id.toNat:Int) == 4294967295) = true:=by rw [beq_iff_eq];omega
     obtain ⟨q1,q2,q3⟩:=add_4 (name:=name) (k:=k) HCK.out (by right;right;exact gi)
     have HQ:=hide (And.intro q1 (And.intro q2 q3))
     clear q1 q2 q3
     have HG:=hide gi
     clear gi gl
     go_wp2_with fail
     (try simp only [Exit.inBlock,Exit.then])
     refine bodyPost_ret (ret_sch (b:=br) (x:=.int .u32 0) (y:=.slice none 0 0) rfl _ _ rfl (set2a w3 br _ _ _ _ zr3 r03 r13 _).1 (set2a w3 br _ _ _ _ zr3 r03 r13 _).2) rfl ?_
     exact AddEnd.bad HQ.out.1 HQ.out.2.1 HQ.out.2.2 (by rw [HZ.out.1];first | exact (below_set2 hB3 br zbr _ _).alloc (by simp;omega) _)
    ·have y3:((id.toNat:Int) == 4294967295) = false:=by rw [beq_eq_false_iff_ne];omega
     have h4:Hid (¬ (l.length = 8 ∨ lastId l = 4294967295 ∨ id.toNat = 4294967295)):=hide (by rw [HLD.out];omega)
     have hlid2:lid + 1 < 4294967296:=by omega
     have hid2:id.toNat + 1 < 4294967296:=by omega
     clear g8 gl gi
     go_wp2_with fail
     obtain ⟨w4,hw4⟩:∃ w4,w4 = w3.alloc (.cells #[.int .u32 (lid:Int),.string f.name,.int .u8 (f.kind.toNat:Int),.bool f.need] 89):=⟨_,rfl⟩
     have xb:=box_new w3 #[.int .u32 (lid:Int),.string f.name,.int .u8 (f.kind.toNat:Int),.bool f.need] 89
     rw [← hw4] at xb ⊢
     have l4:=xb.cell 0 _ rfl
     have zl4:w3.heap.size < w4.heap.size:=by have:=xb.size;omega
     have hb34:=xb.below
     have sa4:=(hb34.cell (p:=⟨bs,0,none⟩) zs3).trans sa3
     have sb4:=(hb34.cell (p:=⟨bs,1,none⟩) zs3).trans sb3
     have na4:=(hb34.cell (p:=⟨bn,0,none⟩) zn3).trans na3
     have r04:=(hb34.cell (p:=⟨br,0,none⟩) zr3).trans r03
     have r14:=(hb34.cell (p:=⟨br,1,none⟩) zr3).trans r13
     have f04:=(hb34.frozen (p:=⟨br,0,none⟩) zr3).trans f03
     have f14:=(hb34.frozen (p:=⟨br,1,none⟩) zr3).trans f13
     have zs4:=Nat.lt_of_lt_of_le zs3 hb34.size
     have zn4:=Nat.lt_of_lt_of_le zn3 hb34.size
     have zr4:=Nat.lt_of_lt_of_le zr3 hb34.size
     have hB4:Below bs w w4:=below_call hB3 hzz hb34
     have hr4:=(hr3.below hb34).more hb34.size
     obtain ⟨bl,hbl⟩:∃ bl,bl = w3.heap.size:=⟨_,rfl⟩
     rw [← hbl] at l4 zl4 ⊢
     clear hw4 xb hbl hb34 sa3 sb3 na3 r03 r13 f03 f13 zs3 zn3 zr3 hr3 f0 f1 f2 f3 hB3 hBsz hzz hb
     refine (schNamed w4 name).mono ?_
     rintro e w5 ⟨rfl,hb5⟩
     have sa5:=(hb5.cell (p:=⟨bs,0,none⟩) zs4).trans sa4
     have sb5:=(hb5.cell (p:=⟨bs,1,none⟩) zs4).trans sb4
     have na5:=(hb5.cell (p:=⟨bn,0,none⟩) zn4).trans na4
     have r05:=(hb5.cell (p:=⟨br,0,none⟩) zr4).trans r04
     have r15:=(hb5.cell (p:=⟨br,1,none⟩) zr4).trans r14
     have f05:=(hb5.frozen (p:=⟨br,0,none⟩) zr4).trans f04
     have f15:=(hb5.frozen (p:=⟨br,1,none⟩) zr4).trans f14
     have zs5:=Nat.lt_of_lt_of_le zs4 hb5.size
     have zn5:=Nat.lt_of_lt_of_le zn4 hb5.size
     have zr5:=Nat.lt_of_lt_of_le zr4 hb5.size
     have l5:=(hb5.cell (p:=⟨bl,0,none⟩) zl4).trans l4
     have zl5:=Nat.lt_of_lt_of_le zl4 hb5.size
     have hB5:Below bs w w5:=below_call hB4 (Nat.le_of_lt zs4) hb5
     have hr5:=(hr4.below hb5).more hb5.size
     clear sa4 sb4 na4 r04 r14 f04 f14 zs4 zn4 zr4 l4 zl4 hB4 hr4 hb5
     obtain ⟨hv,hhas⟩:∃ hv,hv = hasName l name:=⟨_,rfl⟩
     have hcon2:Calls Tryz.prog 81 #[.slice (some ⟨b,off,none⟩) l.length c,.func (.func 157) #[] #[.pointer (some ⟨bn,0,none⟩)]] w5 fun e w' => e = .returned (.bool hv) ∧ Below w5.heap.size w5 w':=by
      rw [hhas]
      exact containsF w5 _ l.length c _ l hr5 (Nat.le_refl _) (by omega) 157 #[.pointer (some ⟨bn,0,none⟩)] _ enter53 (predName2 w5 bn name zn5 na5)
     have HHAS:=hide hhas
     clear hhas
     cases hnm:named name with
     | false =>
       obtain ⟨q1,q2,q3⟩:=add_80 (name:=name) (k:=k) HCK.out h4.out (by rw [hnm];rfl)
       have HQ:=hide (And.intro q1 (And.intro q2 q3))
       clear q1 q2 q3 hcon2
       go_wp2_with fail
       (try simp only [Exit.inBlock,Exit.then])
       refine bodyPost_ret (ret_sch (b:=br) (x:=.int .u32 0) (y:=.slice none 0 0) rfl _ _ rfl (set2 w5 br _ _ _ _ r05 r15).1 (set2 w5 br _ _ _ _ r05 r15).2) rfl ?_
       exact AddEnd.bad HQ.out.1 HQ.out.2.1 HQ.out.2.2 (by rw [HZ.out.1];exact below_set2 hB5 br zbr _ _)
     | true =>
       go_wp2_with fail
       refine hcon2.mono ?_
       rintro e w8 ⟨rfl,hb8⟩
       have sa8:=(hb8.cell (p:=⟨bs,0,none⟩) zs5).trans sa5
       have sb8:=(hb8.cell (p:=⟨bs,1,none⟩) zs5).trans sb5
       have na8:=(hb8.cell (p:=⟨bn,0,none⟩) zn5).trans na5
       have r08:=(hb8.cell (p:=⟨br,0,none⟩) zr5).trans r05
       have r18:=(hb8.cell (p:=⟨br,1,none⟩) zr5).trans r15
       have f08:=(hb8.frozen (p:=⟨br,0,none⟩) zr5).trans f05
       have f18:=(hb8.frozen (p:=⟨br,1,none⟩) zr5).trans f15
       have zs8:=Nat.lt_of_lt_of_le zs5 hb8.size
       have zn8:=Nat.lt_of_lt_of_le zn5 hb8.size
       have zr8:=Nat.lt_of_lt_of_le zr5 hb8.size
       have l8:=(hb8.cell (p:=⟨bl,0,none⟩) zl5).trans l5
       have zl8:=Nat.lt_of_lt_of_le zl5 hb8.size
       have hB8:Below bs w w8:=below_call hB5 (Nat.le_of_lt zs5) hb8
       have hr8:=(hr5.below hb8).more hb8.size
       clear hcon2 sa5 sb5 na5 r05 r15 f05 f15 zs5 zn5 zr5 l5 zl5 hB5 hr5 hb8
       have hhas:=HHAS.out.symm
       cases hv with
       | true =>
         obtain ⟨q1,q2,q3⟩:=add_80 (name:=name) (k:=k) HCK.out h4.out (by rw [hnm,hhas];rfl)
         have HQ:=hide (And.intro q1 (And.intro q2 q3))
         clear q1 q2 q3
         go_wp2_with fail
         (try simp only [Exit.inBlock,Exit.then])
         refine bodyPost_ret (ret_sch (b:=br) (x:=.int .u32 0) (y:=.slice none 0 0) rfl _ _ rfl (set2 w8 br _ _ _ _ r08 r18).1 (set2 w8 br _ _ _ _ r08 r18).2) rfl ?_
         exact AddEnd.bad HQ.out.1 HQ.out.2.1 HQ.out.2.2 (by rw [HZ.out.1];exact below_set2 hB8 br zbr _ _)
       | false =>
         have h80:Hid ((!named name || hasName l name) = false):=hide (by rw [hnm,hhas];rfl)
         clear hnm hhas
         go_wp2_with fail
         refine (schRight w8 k hk).mono ?_
         rintro e w9 ⟨rfl,rfl⟩
         by_cases g1:k < 1 ∨ 3 < k
         ·rw [decide_eq_false (show ¬ (1 ≤ k ∧ k ≤ 3) by omega)]
          obtain ⟨q1,q2,q3⟩:=add_10 (name:=name) (k:=k) HCK.out h4.out h80.out g1
          have HQ:=hide (And.intro q1 (And.intro q2 q3))
          clear q1 q2 q3 g1
          go_wp2_with fail
          (try simp only [Exit.inBlock,Exit.then])
          refine bodyPost_ret (ret_sch (b:=br) (x:=.int .u32 0) (y:=.slice none 0 0) rfl _ _ rfl (set2 w8 br _ _ _ _ r08 r18).1 (set2 w8 br _ _ _ _ r08 r18).2) rfl ?_
          exact AddEnd.bad HQ.out.1 HQ.out.2.1 HQ.out.2.2 (by rw [HZ.out.1];exact below_set2 hB8 br zbr _ _)
         ·rw [decide_eq_true (show 1 ≤ k ∧ k ≤ 3 by omega)]
          obtain ⟨q1,q2,q3⟩:=add_0 (name:=name) (k:=k) HCK.out h4.out h80.out g1
          have HQ:=hide (And.intro q1 (And.intro q2 q3))
          clear q1 q2 q3 g1
          have hwrap:IntKind.u32.wrap ((lid:Int) + 1) = ((lid + 1:Nat):Int):=by rw [IntKind.wrap_u32];omega
          have hnf:(#[.int .u32 ((lid + 1:Nat):Int),.string name,.int .u8 (k:Int),.bool false]:Array Value).toList = fdV (newFd l name k):=by rw [newFd_V l name k (by rw [HLD.out];exact hlid2) hk,HLD.out]
          have hid3:((id.toNat:Int) + 1) % 4294967296 = ((id.toNat + 1:Nat):Int):=by omega
          go_wp2_with fail
          refine wp_region_abs_tail 10 ext_grow (by kernel_rfl) (by kernel_rfl) ?_
          simp only [List.map_cons,List.map_nil,List.take_succ_cons,List.take_zero,List.drop_succ_cons,List.drop_zero]
          refine wpA_value ext_grow ?_ (fun _ _ h => by cases h) rfl rfl ?_ ?_
          rotate_left 1
          ·intro w' hw' C hC
           go_simp
           try go_bits
           exact hC
          simp only [putS,zC0,zB0]
          refine wpA_value ext_grow ?_ (fun _ _ h => by cases h) rfl rfl ?_ ?_
          rotate_left 1
          ·intro w' hw' C hC
           have q:=(hw'.cell (p:=⟨bs,1,none⟩) zs8).trans sb8
           go_simp
           try go_bits
           exact hC
          simp only [putS,zC0,zB0]
          refine wpA_known (.has (OwnF w8.heap.size (fdsV l))) (fun _ _ h => by cases h) rfl rfl (mono_ownF _ _) (fun w' hw' => ?_) ?_
          ·go_simp
           exact ⟨Below.refl _ _,(cloneF w' w8.heap.size l.length c (some ⟨b,off,none⟩) _ (hr8.keep fun p hp => hw'.cell hp) (fdsV_one l) (by omega) hw'.size).mono fun e w'' h => ownF_ret h hw'.size⟩
          simp only [putS,zC0,zB0]
          refine wpA_value ext_grow ?_ (fun _ _ h => by cases h) rfl rfl ?_ ?_
          rotate_left 1
          ·intro w' hw' C hC
           go_simp
           try go_bits
           exact hC
          simp only [putS,zC0,zB0]
          refine wpA_value ext_grow ?_ (fun _ _ h => by cases h) rfl rfl ?_ ?_
          rotate_left 1
          ·intro w' hw' C hC
           have q:=(hw'.cell (p:=⟨bl,0,none⟩) zl8).trans l8
           go_simp
           try go_bits
           exact hC
          simp only [putS,zC0,zB0]
          refine wpA_value ext_grow ?_ (fun _ _ h => by cases h) rfl rfl ?_ ?_
          rotate_left 1
          ·intro w' hw' C hC
           have q:=hwrap
           go_simp
           try go_bits
           exact hC
          simp only [putS,zC0,zB0]
          refine wpA_value ext_grow ?_ (fun _ _ h => by cases h) rfl rfl ?_ ?_
          rotate_left 1
          ·intro w' hw' C hC
           have q:=(hw'.cell (p:=⟨bn,0,none⟩) zn8).trans na8
           go_simp
           try go_bits
           exact hC
          simp only [putS,zC0,zB0]
          refine wpA_value ext_grow ?_ (fun _ _ h => by cases h) rfl rfl ?_ ?_
          rotate_left 1
          ·intro w' hw' C hC
           go_simp
           try go_bits
           exact hC
          simp only [putS,zC0,zB0]
          refine wpA_value ext_grow ?_ (fun _ _ h => by cases h) rfl rfl ?_ ?_
          rotate_left 1
          ·intro w' hw' C hC
           go_simp
           try go_bits
           exact hC
          simp only [putS,zC0,zB0]
          refine wpA_known (.has (LitF (fdV (newFd l name k)))) (fun _ _ h => by cases h) rfl rfl (mono_litF _) (fun w' hw' => ?_) ?_
          ·go_simp
           exact ⟨(Below.refl _ _).alloc (Nat.le_refl _) _,litF_new w' _ hnf rfl⟩
          simp only [putS,zC0,zB0]
          intro wA hwA
          simp only [openS]
          intro vo hvo vl hvl
          obtain ⟨no,eo,ho⟩:=hvo
          obtain ⟨Al,rfl,hl⟩:=hvl
          obtain rfl:no = l.length:=by rw [fdsV_length] at eo;omega
          have hbA:Below w8.heap.size w8 wA:=below_of_drew hwA
          have hone:∀ u ∈ fdV (newFd l name k),u.oneCell' = true:=fun u hu => fdsV_one [newFd l name k] u (by simpa [fdsV] using hu)
          go_wp2_with (at_builtin;refine wpList_app _ tyFields rfl (.tmp 59) (.tmp 66) rfl w8.heap.size _ _ _ rfl ho wA.heap.size Al _ 1 _ rfl hl hone (by omega) hbA.size ?_;intro v2 wB hown hg _;have hbB:=below_app hbA (Nat.le_refl _) ho hg hbA.size;have saB:=(hbB.cell (p:=⟨bs,0,none⟩) zs8).trans sa8;have r0B:=(hbB.cell (p:=⟨br,0,none⟩) zr8).trans r08;have r1B:=(hbB.cell (p:=⟨br,1,none⟩) zr8).trans r18;have f0B:=(hbB.frozen (p:=⟨br,0,none⟩) zr8).trans f08;have f1B:=(hbB.frozen (p:=⟨br,1,none⟩) zr8).trans f18;clear ho hg hl;obtain ⟨gv,capv,rfl,_,_⟩:=hown.form (Nat.succ_pos _))
          (try simp only [Exit.inBlock,Exit.then])
          refine bodyPost_ret (ret_sch (b:=br) (x:=.int .u32 ((id.toNat + 1:Nat):Int)) (y:=.slice (some ⟨gv,0,none⟩) (l.length + 1) capv) rfl _ _ rfl (set2 wB br _ _ _ _ r0B r1B).1 (set2 wB br _ _ _ _ r0B r1B).2) rfl ?_
          have hown3:=ownsRow_setCell_below (ownsRow_setCell_below hown (a:=⟨br,0,none⟩) zr8 (.int .u32 ((id.toNat + 1:Nat):Int))) (a:=⟨br,1,none⟩) zr8 (.slice (some ⟨gv,0,none⟩) (l.length + 1) capv)
          have hfin:fdsV l ++ fdV (newFd l name k) = fdsV (l ++ [newFd l name k]):=by rw [fdsV_append];simp [fdsV]
          rw [hfin] at hown3
          obtain ⟨Ao,co,hAo,hro⟩:=Rd.of_own hown3
          injection hAo with q1 q2 q3
          subst q1 q3
          refine ⟨_,by rw [HQ.out.1];rfl,?_,by rw [HZ.out.1];exact below_set2 (below_call hB8 (Nat.le_of_lt zs8) hbB) br zbr _ _⟩
          rw [HQ.out.2.1,HQ.out.2.2]
          refine ⟨some ⟨gv,0,none⟩,capv,?_,?_⟩
          ·rw [ofNat32 hid2,List.length_append];rfl
          ·rw [List.length_append];exact hro
 ·obtain ⟨q1,q2,q3⟩:=add_check (name:=name) (k:=k) hck
  have HQ:=hide (And.intro q1 (And.intro q2 q3))
  clear q1 q2 q3
  have t1:((check id l:Int) != 0) = true:=by rw [bne_iff_ne];omega
  generalize check id l = ck at *
  go_wp2_with fail
  (try simp only [Exit.inBlock,Exit.then])
  refine bodyPost_ret (ret_sch (b:=br) (x:=.int .u32 0) (y:=.slice none 0 0) rfl _ _ rfl (set2 w3 br _ _ _ _ r03 r13).1 (set2 w3 br _ _ _ _ r03 r13).2) rfl ?_
  exact AddEnd.bad HQ.out.1 HQ.out.2.1 HQ.out.2.2 (by rw [HZ.out.1];exact below_set2 hB3 br zbr _ _)


instance:Inhabited Vl:=⟨.none⟩

section
open Go.RowKit

/-! ### the first place -/

/-! ### rows of structs -/
/-! ### snapshots, schemas -/
instance:Inhabited Sn:=⟨⟨0,0,0,0,0,0,[]⟩⟩
instance:Inhabited Nl:=⟨⟨default,none,0⟩⟩
instance:Inhabited Sl:=⟨⟨0,[],none,0⟩⟩
section
variable {w w':World} {B B' sc nc:Nat} {sA nA:Option Addr} {ss:List Sl} {ns:List Nl}
end
end


def growErr (ss:List Ps) (ns:List Sn) (cur:Nat) (s:Ps):Nat:=if 16 ≤ ss.length then 4 else if rightP (ss ++ [s]) ns cur = true then 0 else 1


def DropEnd (w:World) (ss:List Ps) (ns:List Sn) (cur:UInt64) (ids:List UInt64):Ending → World → Prop :=
 if dropErr ns cur ids = 0 then StepEnd w 0 ss (ns.filter fun s => !isIn ids s.id) cur.toNat else StepEnd w (dropErr ns cur ids) [] [] 0
theorem metaDrop (w:World) (sA:Option Addr) (sc:Nat) (ss:List Sl) (nA:Option Addr) (nc:Nat) (ns:List Nl) (cur:UInt64) (hT:TabR w w.heap.size sA sc ss nA nc ns) (h1:ss.length ≤ 1000000) (h2:∀ s ∈ ss,s.fs.length ≤ 1000000) (h3:ns.length ≤ 1000000) (h4:∀ s ∈ ns,s.p.ms.length ≤ 1000000)
 (ids:List UInt64) (iA:Option Addr) (ic:Nat) (hri:Rd w w.heap.size 1 iA ids.length ic (u64sV ids)) (hi:ids.length ≤ 1000000) :
 Calls Tryz.prog 39 #[.agg #[.slice sA ss.length sc,.slice nA ns.length nc,.int .u64 (cur.toNat:Int)],.slice iA ids.length ic] w (DropEnd w (ss.map plS) (ns.map plN) cur ids):=by
 unfold DropEnd
 by_cases h:dropErr (ns.map plN) cur ids = 0
 ·rw [if_pos h]
  exact metaDrop0 w sA sc ss nA nc ns cur hT h1 h2 h3 h4 ids iA ic hri hi h
 ·rw [if_neg h]
  exact metaDropBad w sA sc ss nA nc ns cur hT h3 h4 ids iA ic hri hi h
end Go.Proofs.YtpfofefecamkfaaGreatDoor
