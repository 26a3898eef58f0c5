/- THE WALKS of the store's Cell, the catalog's Refresh, Name, Table. No statement of the seat is proved here; no condition but sizes. -/
import Derived.Test.YtpfofefecamkfaaGreatDoorCtS
namespace Go.Proofs.YtpfofefecamkfaaGreatDoor
set_option maxRecDepth 100000
open Go.RowKit

/-- a step's table, as a whole -/
theorem step_tb {w w':World} {er:Nat} {t:Tb} {e:Ending} (h:StepEnd w er t.ss t.ns t.cur.toNat e w') :
 ∃ sA sc ss nA nc ns,e = .returned (.tuple #[.agg #[.slice sA (List.length ss) sc,.slice nA (List.length ns) nc,.int .u64 (t.cur.toNat:Int)],.int .i64 (er:Int)]) ∧ OwnT w' w.heap.size sA sc ss nA nc ns ∧ ss.map plS = t.ss ∧ ns.map plN = t.ns ∧ Below w.heap.size w w':=h
theorem open_tb {w w':World} {l:List UInt8} {e:Ending} (h:OpEnd w l e w'):StepEnd w (tbOpen l).2 (tbOpen l).1.ss (tbOpen l).1.ns (tbOpen l).1.cur.toNat e w':=by
 by_cases h0:oErr l = 0
 ·have e1:tbOpen l = (⟨(opn ((bodyOf l).drop 3)).1,(opn ((bodyOf l).drop 3)).2.1,curU (opn ((bodyOf l).drop 3)).2.1⟩,0):=if_pos h0
  rw [e1]
  unfold OpEnd at h
  rw [if_pos h0] at h
  clear e1 h0
  generalize opn ((bodyOf l).drop 3) = X at *
  exact h
 ·have e1:tbOpen l = (default,oErr l):=if_neg h0
  rw [e1]
  unfold OpEnd at h
  rw [if_neg h0] at h
  clear e1 h0
  generalize oErr l = X at *
  exact h
theorem objCell (P:Nat → Prop) (w:World) (sb mb N:Nat) (s:So) (h:StR P w sb mb N s):Calls Tryz.prog 37 #[.pointer (some ⟨sb,0,none⟩)] w fun e w' => e = .returned (.tuple #[.string s.cellE.1,.int .i64 (s.cellE.2:Int)]) ∧ w = w':=by
 have c6:=h.bx.cell 6 _ rfl
 have c3:=h.bx.cell 3 _ rfl
 cases hd:s.dead with
 | true =>
   rw [hd] at c6
   have HG:Hid (s.cellE = (no_,120)):=hide (by unfold So.cellE;rw [if_pos hd])
   clear hd
   go_enter Tryz.func37,Tryz.ntmps37
   go_wp2_with fail
   go_ret2
   rw [HG.out]
   exact ⟨rfl,rfl⟩
 | false =>
   rw [hd] at c6
   have HG:Hid (s.cellE = (s.cell,0)):=hide (by unfold So.cellE;rw [if_neg (by rw [hd];simp)])
   clear hd
   go_enter Tryz.func37,Tryz.ntmps37
   go_wp2_with fail
   go_ret2
   rw [HG.out]
   exact ⟨rfl,rfl⟩
theorem catName (P:Nat → Prop) (w:World) (sb cb:Nat) (c:Ct) (h:CatR w P cb sb c):Calls Tryz.prog 15 #[.pointer (some ⟨cb,0,none⟩)] w fun e w' => e = .returned (.string c.nm) ∧ w = w':=by
 have c4:=h.c4
 go_enter Tryz.func15,Tryz.ntmps15
 go_wp2_with fail
 go_ret
 exact ⟨rfl,rfl⟩
/-- the catalog takes a table and a name -/
theorem CatR.put {M:Nat → Prop} {w:World} {cb sb:Nat} {c:Ct} {t:Tb} {nm:ByteArray} (h:CatR w (fun k => ¬ M k) cb sb c) (hM:M cb) {sA nA:Option Addr} {sc nc:Nat} {ss:List Sl} {ns:List Nl} (hT:TabQ w (fun k => ¬ M k) sA sc ss nA nc ns) (e1:ss.map plS = t.ss) (e2:ns.map plN = t.ns) :
 CatR ((((w.setCell ⟨cb,1,none⟩ (.slice sA ss.length sc)).setCell ⟨cb,2,none⟩ (.slice nA ns.length nc)).setCell ⟨cb,3,none⟩ (.int .u64 (t.cur.toNat:Int))).setCell ⟨cb,4,none⟩ (.string nm)) (fun k => ¬ M k) cb sb ⟨t,nm⟩:=by
 obtain ⟨sA0,sc0,ss0,nA0,nc0,ns0,hx,_⟩:=h
 have o:=((((Oth.refl cb w).set 1 (.slice sA ss.length sc)).set 2 (.slice nA ns.length nc)).set 3 (.int .u64 (t.cur.toNat:Int))).set 4 (.string nm)
 refine ⟨sA,sc,ss,nA,nc,ns,(((hx.set (j:=1) (.slice sA ss.length sc) rfl).set (j:=2) (.slice nA ns.length nc) rfl).set (j:=3) (.int .u64 (t.cur.toNat:Int)) rfl).set (j:=4) (.string nm) rfl,?_,e1,e2⟩
 exact hT.keep o.size fun p hp hl => o.cell hl fun q => hp (by rw [q];exact hM)
theorem oth_put (w:World) (cb:Nat) (a b c d:Value):Oth cb w ((((w.setCell ⟨cb,1,none⟩ a).setCell ⟨cb,2,none⟩ b).setCell ⟨cb,3,none⟩ c).setCell ⟨cb,4,none⟩ d):=((((Oth.refl cb w).set 1 a).set 2 b).set 3 c).set 4 d
theorem Env.oth {M:Nat → Prop} {w w':World} {sb mb K cb:Nat} {s:So} (h:Env M w sb mb K s) (o:Oth cb w w') (hM:M cb) (h1:cb ≠ sb) (h2:cb ≠ mb):Env M w' sb mb K s:=by
 obtain ⟨N,hN,hS⟩:=h.st
 obtain ⟨D,hD⟩:=hS.mp
 exact ⟨⟨N,hN,⟨hS.bx.oth o (fun q => h1 q.symm),⟨D,hD.move o.size (o.block mb hD.lt (fun q => h2 q.symm)) (fun p hp hl => o.cell hl fun q => hp (by rw [q];exact hM))⟩,hS.nP,hS.ne,hS.ok⟩⟩,h.m1,h.m2,fun k hk => Nat.lt_of_lt_of_le (h.lt k hk) o.size,h.g9,h.tb.mst (Mst.ofOth (M:=M) o hM) h.g9,h.fit⟩
/-- what a call that may turn the catalog alone leaves -/
def RfEnd15 (M:Nat → Prop) (w:World) (sb mb cb K:Nat) (s:So) (r:Ct × Nat) (e:Ending) (w':World):Prop :=
 e = .returned (.int .i64 (r.2:Int)) ∧ Env M w' sb mb K s ∧ CatR w' (fun k => ¬ M k) cb sb r.1 ∧ Mst (fun k => k = cb) w w'
theorem rf_dead {s:So} {c:Ct} (h:s.dead = true):s.refresh c = (c,120):=by unfold So.refresh;rw [if_pos h]
theorem rf_get {s:So} {c:Ct} (h:s.dead = false) (h2:(s.get s.cell).2 ≠ 0):s.refresh c = (c,(s.get s.cell).2):=by unfold So.refresh;rw [if_neg (by rw [h];simp),if_pos h2]
theorem rf_open {s:So} {c:Ct} (h:s.dead = false) (h2:(s.get s.cell).2 = 0) (h3:(tbOpen (s.get s.cell).1).2 ≠ 0):s.refresh c = (c,(tbOpen (s.get s.cell).1).2):=by unfold So.refresh;rw [if_neg (by rw [h];simp),if_neg (by rw [h2];simp),if_pos h3]
theorem rf_on {s:So} {c:Ct} (h:s.dead = false) (h2:(s.get s.cell).2 = 0) (h3:(tbOpen (s.get s.cell).1).2 = 0):s.refresh c = (⟨(tbOpen (s.get s.cell).1).1,s.cell⟩,0):=by unfold So.refresh;rw [if_neg (by rw [h];simp),if_neg (by rw [h2];simp),if_neg (by rw [h3];simp)]
set_option maxHeartbeats 4000000 in
theorem catRefresh (M:Nat → Prop) (w:World) (sb mb cb K:Nat) (s:So) (h:Env M w sb mb K s) (c:Ct) (hc:CatR w (fun k => ¬ M k) cb sb c) (hM:M cb) (h1:cb ≠ sb) (h2:cb ≠ mb) :
 Calls Tryz.prog 14 #[.pointer (some ⟨cb,0,none⟩)] w (RfEnd15 M w sb mb cb K s (s.refresh c)):=by
 have HE:=hide (And.intro h hc)
 obtain ⟨N,hN,hS⟩:=h.st
 have c0:=hc.c0
 have hcl:=objCell _ w sb mb N s hS
 clear h hc
 cases hd:s.dead with
 | true =>
   have HG:=hide (rf_dead (c:=c) hd)
   unfold So.cellE at hcl
   rw [if_pos hd] at hcl
   clear hd
   go_enter Tryz.func14,Tryz.ntmps14
   go_wp2_with fail
   refine hcl.mono ?_
   rintro e w1 ⟨rfl,rfl⟩
   clear hcl
   go_wp2_with fail
   go_ret
   rw [HG.out]
   exact ⟨rfl,HE.out.1,HE.out.2,Mst.refl _ _⟩
 | false =>
 unfold So.cellE at hcl
 rw [if_neg (by rw [hd];simp)] at hcl
 dsimp only at hcl
 rw [show ((0:Nat):Int) = 0 from rfl] at hcl
 have hgl:=get_len HE.out.1.fit s.cell
 have hget:=objGet _ w sb mb N s hS s.cell (by have:=HE.out.1.fit.ce;unfold maxLen;omega) (small_at HE.out.1.fit.sm)
 obtain ⟨r,hr⟩:∃ r,s.get s.cell = r:=⟨_,rfl⟩
 rw [hr] at hget hgl
 obtain ⟨bs,e2⟩:=r
 dsimp only at hgl
 have HR:=hide (And.intro hd hr)
 have HGET:=hide hget
 clear hd hr hget hS
 go_enter Tryz.func14,Tryz.ntmps14
 go_wp2_with fail
 refine hcl.mono ?_
 rintro e w1 ⟨rfl,rfl⟩
 clear hcl
 go_wp2_with fail
 refine HGET.out.mono ?_
 rintro e w2 ⟨hb2,A2,k2,rfl,hown2⟩
 dsimp only at hown2 ⊢
 have hr2:=rd_own hown2
 have hE2:=HE.out.1.low hb2
 have hc2:=HE.out.2.low hb2
 clear hown2 c0
 by_cases h0:e2 = 0
 ·subst h0
  have hop:=metaOpen w2 A2 k2 bs hr2 hE2.tb.crc (by omega)
  have HEC:=hide (And.intro hE2 hc2)
  clear hr2 hE2 hc2
  go_wp2_with fail
  refine hop.mono ?_
  rintro e w3 hst
  have hst:=step_tb (open_tb hst)
  obtain ⟨sA,sc,ss,nA,nc,ns,rfl,hO,e1,e3,hb3⟩:=hst
  have hE3:=HEC.out.1.low hb3
  have hc3:=HEC.out.2.low hb3
  have HT:=hide (TabQ.own (P:=fun k => ¬ M k) hO (fun k hk _ => HEC.out.1.hP k hk))
  obtain ⟨o,ho⟩:∃ o,tbOpen bs = o:=⟨_,rfl⟩
  rw [ho] at e1 e3 ⊢
  obtain ⟨t,e4⟩:=o
  dsimp only at e1 e3 ⊢
  have HB3:=hide (below_call hb2 hb2.size hb3)
  clear hO hop hb3
  by_cases h4:e4 = 0
  ·subst h4
   have HG:Hid (s.refresh c = (⟨t,s.cell⟩,0)):=hide (by rw [rf_on HR.out.1 (by rw [HR.out.2]) (by rw [HR.out.2];show (tbOpen bs).2 = 0;rw [ho]),HR.out.2];show ((⟨(tbOpen bs).1,s.cell⟩:Ct),0) = _;rw [ho])
   clear ho
   have hbA:=(Below.refl w3.heap.size w3).alloc (Nat.le_refl _) (.cells #[.slice sA ss.length sc,.slice nA ns.length nc,.int .u64 (t.cur.toNat:Int)] 39)
   have y:=boxN_new w3 #[.slice sA ss.length sc,.slice nA ns.length nc,.int .u64 (t.cur.toNat:Int)] 39
   have hE4:=hE3.low hbA
   have hc4:=hc3.low hbA
   have hT4:=HT.out.low hbA
   have hB4:=below_call HB3.out HB3.out.size hbA
   clear hE3 hc3 hbA
   go_upto_region 9 with fail
   generalize w3.alloc (.cells #[.slice sA ss.length sc,.slice nA ns.length nc,.int .u64 (t.cur.toNat:Int)] 39) = w4 at *
   generalize w3.heap.size = yb at *
   have y0:=y.cell 0 _ rfl
   have y1:=y.cell 1 _ rfl
   have y2:=y.cell 2 _ rfl
   have hbx:∃ v1 v2 v3 v4,BoxN w4 cb [.pointer (some ⟨sb,0,none⟩),v1,v2,v3,v4]:=by
    obtain ⟨sA,sc,ss,nA,nc,ns,hx,_⟩:=hc4
    exact ⟨_,_,_,_,hx⟩
   obtain ⟨v1,v2,v3,v4,hx⟩:=hbx
   have d1:=hx.cell 1 _ rfl
   have d2:=hx.cell 2 _ rfl
   have d3:=hx.cell 3 _ rfl
   have d4:=hx.cell 4 _ rfl
   have f1:=hx.free 1 (by simp)
   have f2:=hx.free 2 (by simp)
   have f3:=hx.free 3 (by simp)
   have f4:=hx.free 4 (by simp)
   have HF:=hide (And.intro hE4 (And.intro hc4 (And.intro hT4 (And.intro hB4 (And.intro e1 e3)))))
   clear hE4 hc4 hT4 hB4 e1 e3 hx y
   go_wp2_with fail
   go_ret
   obtain ⟨hE4,hc4,hT4,hB4,e1,e3⟩:=HF.out
   rw [HG.out]
   have o:=oth_put w4 cb (.slice sA ss.length sc) (.slice nA ns.length nc) (.int .u64 (t.cur.toNat:Int)) (.string s.cell)
   exact ⟨rfl,hE4.oth o hM h1 h2,hc4.put hM hT4 e1 e3,(Mst.of hB4).trans (Mst.ofOth (M:=fun k => k = cb) o rfl)⟩
  ·have HG:Hid (s.refresh c = (c,e4)):=hide (by rw [rf_open HR.out.1 (by rw [HR.out.2]) (by rw [HR.out.2];show (tbOpen bs).2 ≠ 0;rw [ho];exact h4),HR.out.2];show (c,(tbOpen bs).2) = _;rw [ho])
   have t36:((e4:Int) == 0) = false:=by rw [beq_eq_false_iff_ne];omega
   have hbA:=(Below.refl w3.heap.size w3).alloc (Nat.le_refl _) (.cells #[.slice sA ss.length sc,.slice nA ns.length nc,.int .u64 (t.cur.toNat:Int)] 39)
   have HF:=hide (And.intro (hE3.low hbA) (And.intro (hc3.low hbA) (below_call HB3.out HB3.out.size hbA)))
   clear ho h4 hE3 hc3 hbA e1 e3
   go_wp2_with fail
   go_ret
   rw [HG.out]
   exact ⟨rfl,HF.out.1,HF.out.2.1,Mst.of HF.out.2.2⟩
 ·have t28:((e2:Int) != 0) = true:=by rw [bne_iff_ne];omega
  have HG:=hide (rf_get (c:=c) HR.out.1 (by rw [HR.out.2];exact h0))
  have HG2:Hid ((s.get s.cell).2 = e2):=hide (by rw [HR.out.2])
  have HEC:=hide (And.intro hE2 hc2)
  clear h0 hr2 hE2 hc2
  go_wp2_with fail
  go_ret
  rw [HG.out,HG2.out]
  exact ⟨rfl,HEC.out.1,HEC.out.2,Mst.of hb2⟩
end Go.Proofs.YtpfofefecamkfaaGreatDoor
