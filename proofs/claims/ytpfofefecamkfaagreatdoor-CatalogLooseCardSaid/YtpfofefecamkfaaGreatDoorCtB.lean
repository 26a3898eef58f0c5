/- BOUNDS of tables that may be; THE WALK of the catalog's Table. No statement of the seat is proved here; no condition but sizes. -/
import Derived.Test.YtpfofefecamkfaaGreatDoorCtR
import Derived.Test.YtpfofefecamkfaaGreatDoorCtD
namespace Go.Proofs.YtpfofefecamkfaaGreatDoor
open Go.RowKit

/-- a table that may be -/
def Tb.ok (t:Tb):Prop:=rightP t.ss t.ns t.cur.toNat = true
structure Tb.bd (ss:List Sl) (ns:List Nl):Prop where
 s1:1 ≤ ss.length
 s16:ss.length ≤ 16
 n32:ns.length ≤ 32
 f8:∀ s ∈ ss,1 ≤ s.fs.length ∧ s.fs.length ≤ 8
 m8:∀ s ∈ ns,s.p.ms.length ≤ 8
theorem Tb.ok.bd {t:Tb} (h:t.ok) {ss:List Sl} {ns:List Nl} (e1:ss.map plS = t.ss) (e2:ns.map plN = t.ns):Tb.bd ss ns:=by
 obtain ⟨⟨a,b,c⟩,hs,hn⟩:=right_has h
 rw [← e1,List.length_map] at a b
 rw [← e2,List.length_map] at c
 refine ⟨a,b,c,fun s hsm => ?_,fun s hsm => ?_⟩
 ·have h1:=hs (plS s) (by rw [← e1];exact List.mem_map.2 ⟨s,hsm,rfl⟩)
  have h2:=check_len (id:=s.id) (l:=s.fs) h1
  exact ⟨h2.2.1,h2.2.2⟩
 ·have h1:=hn (plN s) (by rw [← e2];exact List.mem_map.2 ⟨s,hsm,rfl⟩)
  have h2:namesOk s.p.ms = true:=by
   exact h1
  unfold namesOk at h2
  simp at h2
  exact h2.1
theorem drop_none_ {t:Tb}:dropErr t.ns t.cur [] = 0:=rfl
theorem filt_none (l:List Sn):(l.filter fun x => !isIn [] x.id) = l:=by
 rw [List.filter_eq_self]
 intro a _
 rfl
/-- a table that a call tells, one's own -/
def TbEnd (w:World) (t:Tb) (e:Ending) (w':World):Prop :=
 ∃ sA sc ss nA nc ns,e = .returned (.agg #[.slice sA (List.length ss) sc,.slice nA (List.length ns) nc,.int .u64 (t.cur.toNat:Int)]) ∧ OwnT w' w.heap.size sA sc ss nA nc ns ∧ ss.map plS = t.ss ∧ ns.map plN = t.ns ∧ Below w.heap.size w w'
set_option maxRecDepth 100000 in
set_option maxHeartbeats 4000000 in
theorem catTable (P:Nat → Prop) (w:World) (sb cb:Nat) (c:Ct) (h:CatR w P cb sb c) (hok:c.t.ok):Calls Tryz.prog 12 #[.pointer (some ⟨cb,0,none⟩)] w (TbEnd w c.t):=by
 obtain ⟨sA,sc,ss,nA,nc,ns,hx,hT,e1,e2⟩:=h
 have hbd:=hok.bd e1 e2
 have c1:=hx.cell 1 _ rfl
 have c2:=hx.cell 2 _ rfl
 have c3:=hx.cell 3 _ rfl
 have hcz:cb < w.heap.size:=hx.z
 have hb0:=(Below.refl w.heap.size w).alloc (Nat.le_refl _) (.cells #[.slice none 0 0,.slice none 0 0,.int .u64 0] 39)
 have y:=boxN_new w #[.slice none 0 0,.slice none 0 0,.int .u64 0] 39
 have hT1:=hT.low hb0
 have HD:=hide (And.intro e1 e2)
 clear hx hT hok e1 e2
 go_enter Tryz.func12,Tryz.ntmps12
 go_upto_region 1 with fail
 have d1:=(hb0.cell (p:=⟨cb,1,none⟩) hcz).trans c1
 have d2:=(hb0.cell (p:=⟨cb,2,none⟩) hcz).trans c2
 have d3:=(hb0.cell (p:=⟨cb,3,none⟩) hcz).trans c3
 have hzz:w.heap.size < (w.alloc (.cells #[.slice none 0 0,.slice none 0 0,.int .u64 0] 39)).heap.size:=by simp
 generalize w.alloc (.cells #[.slice none 0 0,.slice none 0 0,.int .u64 0] 39) = w1 at *
 obtain ⟨yb,hyb⟩:∃ b,b = w.heap.size:=⟨_,rfl⟩
 rw [← hyb] at y hzz
 clear c1 c2 c3
 have hdr:=metaDrop w1 sA sc ss nA nc ns c.t.cur hT1.tab (by have:=hbd.s16;omega) (fun s hs => by have:=(hbd.f8 s hs).2;omega) (by have:=hbd.n32;omega) (fun s hs => by have:=hbd.m8 s hs;omega) [] none 0 (Rd.nil _ _ _) (by decide)
 have HB0:=hide (And.intro hb0 hyb)
 rw [← hyb]
 clear hT1 hbd hyb
 go_wp2_with fail
 refine hdr.mono ?_
 rintro e w2 hst
 clear hdr
 unfold DropEnd at hst
 rw [HD.out.2,drop_none_,if_pos rfl,filt_none,HD.out.1] at hst
 obtain ⟨sA2,sc2,ss2,nA2,nc2,ns2,rfl,hO,e1,e2,hb2⟩:=hst
 have y2:=y.keep hb2 hzz
 have hb3:=(Below.refl w2.heap.size w2).alloc (Nat.le_refl _) (.cells #[.slice sA2 ss2.length sc2,.slice nA2 ns2.length nc2,.int .u64 (c.t.cur.toNat:Int)] 39)
 have z:=boxN_new w2 #[.slice sA2 ss2.length sc2,.slice nA2 ns2.length nc2,.int .u64 (c.t.cur.toNat:Int)] 39
 have y3:=y2.keep hb3 y2.z
 have hO3:=hO.keep hb3
 clear d1 d2 d3 y2 hO
 go_upto_region 2 with fail
 have hz3:w2.heap.size ≠ yb:=by have:=y.z;have:=hb2.size;omega
 generalize w2.alloc (.cells #[.slice sA2 ss2.length sc2,.slice nA2 ns2.length nc2,.int .u64 (c.t.cur.toNat:Int)] 39) = w3 at *
 have z0:=z.cell 0 _ rfl
 have z1:=z.cell 1 _ rfl
 have z2:=z.cell 2 _ rfl
 have r0:=y3.cell 0 _ rfl
 have r1:=y3.cell 1 _ rfl
 have r2:=y3.cell 2 _ rfl
 have f0:=y3.free 0 (by simp)
 have f1:=y3.free 1 (by simp)
 have f2:=y3.free 2 (by simp)
 have HF:=hide (And.intro hO3 (And.intro hb2 (And.intro hb3 (And.intro y3 (And.intro e1 e2)))))
 clear hO3 hb2 hb3 y3 e1 e2 y z
 go_wp2_with fail
 obtain ⟨hO3,hb2,hb3,y3,e1,e2⟩:=HF.out
 have hb0:=HB0.out.1
 have hyb:=HB0.out.2
 refine bodyPost_ret (ret_tb1 (b:=yb) rfl _ _ rfl (y3.set3b (v0:=.slice sA2 ss2.length sc2) (v1:=.slice nA2 ns2.length nc2) (v2:=.int .u64 (c.t.cur.toNat:Int)))) rfl ?_
 refine ⟨sA2,sc2,ss2,nA2,nc2,ns2,rfl,?_,e1,e2,?_⟩
 ·exact (hO3.set3b (by omega)).base (by omega)
 ·exact below_set3b (below_call (below_call hb0 hb0.size hb2) (by have:=hb0.size;have:=hb2.size;omega) hb3) (by omega)
end Go.Proofs.YtpfofefecamkfaaGreatDoor
