/- THE WALK of the catalog's wider. No statement of the seat is proved here; no condition but sizes. -/
import Derived.Test.YtpfofefecamkfaaGreatDoorCtX
namespace Go.Proofs.YtpfofefecamkfaaGreatDoor
open Go.RowKit

/-- a row of fields is no such box -/
theorem row_ne_new {w:World} {B n c b:Nat} {A:Option Addr} {l:List Fd} (h:Rd w B 4 A n c (fdsV l)) (hb:w.heap[b]? = some (.cells #[.int .u32 0,.slice none 0 0] 33 (0,0))) (hn:0 < n):∀ g off,A = some ⟨g,off,none⟩ → g ≠ b:=by
 rintro g off rfl rfl
 obtain ⟨b2,off2,e,_,hc⟩:=h.at_ hn
 injection e with e
 injection e with e1 e2 _
 subst e1 e2
 cases l with
 | nil => have:=h.len;simp [fdsV] at this;omega
 | cons f l =>
   have h1:=hc 1 (.string f.name) rfl
   rw [cell_of_row w g (off + 1) _ _ _ hb] at h1
   rcases off with _ | off
   ·cases h1
   ·rw [Array.getElem?_eq_none (by simp)] at h1
    cases h1
/-- a row that does not lie in the box that turns -/
theorem rd_out {w w':World} {b sz n c:Nat} {A:Option Addr} {xs:List Value} (h:Rd w w.heap.size sz A n c xs) (hn:∀ g off,0 < n → A = some ⟨g,off,none⟩ → g ≠ b) (o:Oth b w w'):Rd w' w'.heap.size sz A n c xs :=
 ⟨h.len,h.le,h.cap,fun h0 => by
  obtain ⟨b2,off,e,hb,hc⟩:=h.at_ h0
  exact ⟨b2,off,e,Nat.lt_of_lt_of_le hb o.size,fun j u hu => (o.cell (p:=⟨b2,off + j,none⟩) hb (hn _ _ h0 e)).trans (hc j u hu)⟩⟩
theorem TabQ.set3q {w:World} {P:Nat → Prop} {sA nA:Option Addr} {sc nc b:Nat} {ss:List Sl} {ns:List Nl} {v0 v1 v2:Value} (h:TabQ w (fun k => P k ∧ k ≠ b) sA sc ss nA nc ns):TabQ (set3b w b v0 v1 v2) P sA sc ss nA nc ns:=by
 have o:=(((Oth.refl b w).set 0 v0).set 1 v1).set 2 v2
 exact (h.keep (w':=set3b w b v0 v1 v2) o.size (fun p hp hl => o.cell hl hp.2)).imp (fun k hk _ => hk.1)
/-- a table that a call tells, with an error; P: its blocks -/
def WdEnd (P:Nat → Prop) (w:World) (r:Tb × Nat) (e:Ending) (w':World):Prop :=
 ∃ sA sc ss nA nc ns,e = .returned (.tuple #[.agg #[.slice sA (List.length ss) sc,.slice nA (List.length ns) nc,.int .u64 (r.1.cur.toNat:Int)],.int .i64 (r.2:Int)]) ∧ TabQ w' P sA sc ss nA nc ns ∧ ss.map plS = r.1.ss ∧ ns.map plN = r.1.ns ∧ Below w.heap.size w w'
theorem wider_arg {t:Tb} {f:Fd} {r:List Fd} (h:f.id ≠ 0 ∨ f.need = true):wider t (f :: r) = (default,1):=by unfold wider;rw [if_pos h]
theorem wider_add {t:Tb} {f:Fd} {r:List Fd} (h:¬ (f.id ≠ 0 ∨ f.need = true)) (h2:addErr t.lastS.1 t.lastS.2 f.name f.kind.toNat ≠ 0):wider t (f :: r) = (default,addErr t.lastS.1 t.lastS.2 f.name f.kind.toNat):=by unfold wider;rw [if_neg h,if_pos h2]
theorem wider_grow {t:Tb} {f:Fd} {r:List Fd} (h:¬ (f.id ≠ 0 ∨ f.need = true)) (h2:addErr t.lastS.1 t.lastS.2 f.name f.kind.toNat = 0) (h3:growErr t.ss t.ns t.cur.toNat (addId t.lastS.1 t.lastS.2 f.name f.kind.toNat,addFds t.lastS.1 t.lastS.2 f.name f.kind.toNat) ≠ 0) :
 wider t (f :: r) = (default,growErr t.ss t.ns t.cur.toNat (addId t.lastS.1 t.lastS.2 f.name f.kind.toNat,addFds t.lastS.1 t.lastS.2 f.name f.kind.toNat)):=by unfold wider;rw [if_neg h,if_neg (by rw [h2];simp),if_pos h3]
theorem wider_on {t:Tb} {f:Fd} {r:List Fd} (h:¬ (f.id ≠ 0 ∨ f.need = true)) (h2:addErr t.lastS.1 t.lastS.2 f.name f.kind.toNat = 0) (h3:growErr t.ss t.ns t.cur.toNat (addId t.lastS.1 t.lastS.2 f.name f.kind.toNat,addFds t.lastS.1 t.lastS.2 f.name f.kind.toNat) = 0) :
 wider t (f :: r) = wider ⟨t.ss ++ [(addId t.lastS.1 t.lastS.2 f.name f.kind.toNat,addFds t.lastS.1 t.lastS.2 f.name f.kind.toNat)],t.ns,t.cur⟩ r:=by rw [wider,if_neg h,if_neg (by rw [h2];simp),if_neg (by rw [h3];simp)]
theorem grow_ok {t:Tb} {s:Ps} (h:growErr t.ss t.ns t.cur.toNat s = 0):Tb.ok ⟨t.ss ++ [s],t.ns,t.cur⟩:=by
 unfold growErr at h
 split at h
 ·omega
 split at h
 ·rename_i h2
  exact h2
 ·omega
theorem last_map {t:Tb} {ss:List Sl} (e:ss.map plS = t.ss) (_h:1 ≤ ss.length):t.lastS = plS (ss.getD (ss.length - 1) default):=by
 unfold Tb.lastS
 rw [← e,List.length_map,plS_get]
set_option maxRecDepth 100000 in
set_option maxHeartbeats 8000000 in
theorem catWider (P:Nat → Prop) (w:World) (hP:∀ k,w.heap.size ≤ k → P k) (sb cb:Nat) (c:Ct) (hc:CatR w P cb sb c) (hok:c.t.ok) (l:List Fd) (A:Option Addr) (k:Nat) (hr:RdQ w P 4 A l.length k (fdsV l)) :
 Calls Tryz.prog 42 #[.pointer (some ⟨cb,0,none⟩),.slice A l.length k] w (WdEnd P w (wider c.t l)):=by
 obtain ⟨sA,sc,ss,nA,nc,ns,hx,hT,e1,e2⟩:=hc
 have hll:l.length ≤ 9223372036854775807:=by have h1:=hr.rd.le;have h2:=hr.rd.cap;unfold maxLen at h2;omega
 have c1:=hx.cell 1 _ rfl
 have c2:=hx.cell 2 _ rfl
 have c3:=hx.cell 3 _ rfl
 have hcz:cb < w.heap.size:=hx.z
 have hb0:=(Below.refl w.heap.size w).alloc (Nat.le_refl _) (.cells #[.slice none 0 0,.slice none 0 0,.int .u64 0] 39)
 have y4:=boxN_new w #[.slice none 0 0,.slice none 0 0,.int .u64 0] 39
 have hT0:=(hT.imp (Q:=fun k => P k ∧ k ≠ w.heap.size) (fun k hp hl => ⟨hp,by omega⟩)).low hb0
 have HR:=hide hr
 have HT0:=hide (And.intro hT (And.intro e1 (And.intro e2 hok)))
 clear hx hT hr e1 e2
 go_enter Tryz.func42,Tryz.ntmps42
 go_upto_region 1 with fail
 have d1:=(hb0.cell (p:=⟨cb,1,none⟩) hcz).trans c1
 have d2:=(hb0.cell (p:=⟨cb,2,none⟩) hcz).trans c2
 have d3:=(hb0.cell (p:=⟨cb,3,none⟩) hcz).trans c3
 have hzz:w.heap.size < (w.alloc (.cells #[.slice none 0 0,.slice none 0 0,.int .u64 0] 39)).heap.size:=by simp
 generalize w.alloc (.cells #[.slice none 0 0,.slice none 0 0,.int .u64 0] 39) = w1 at *
 obtain ⟨b4,hb4⟩:∃ b,b = w.heap.size:=⟨_,rfl⟩
 have HB4:=hide hb4
 rw [← hb4] at y4 hzz hT0 ⊢
 clear hb4
 have hz01:=hb0.size
 have hb1:=(Below.refl w1.heap.size w1).alloc (Nat.le_refl _) (.cells #[.slice sA ss.length sc,.slice nA ns.length nc,.int .u64 (c.t.cur.toNat:Int)] 39)
 have y6:=boxN_new w1 #[.slice sA ss.length sc,.slice nA ns.length nc,.int .u64 (c.t.cur.toNat:Int)] 39
 have y4b:=y4.keep hb1 y4.z
 have hT2:=hT0.low hb1
 have hbb:=below_call hb0 hb0.size hb1
 clear c1 c2 c3 y4 hT0 hok
 go_upto_region 3 with fail
 generalize w1.alloc (.cells #[.slice sA ss.length sc,.slice nA ns.length nc,.int .u64 (c.t.cur.toNat:Int)] 39) = w2 at *
 obtain ⟨b6,hb6⟩:∃ b,b = w1.heap.size:=⟨_,rfl⟩
 rw [← hb6] at y6 ⊢
 have h46:b4 < b6:=by omega
 have H6:Hid (w.heap.size ≤ b6):=hide (by omega)
 clear d1 d2 d3 hb0 hb1 hzz hb6 hz01
 clear w1
 go_loopw [17] (fun iv wr => ∃ (i:Nat) (t:Tb) (sA:Option Addr) (sc:Nat) (ss:List Sl) (nA:Option Addr) (nc:Nat) (ns:List Nl),iv = .int .i64 (i:Int) ∧ i ≤ l.length ∧ Hid (wider c.t l = wider t (l.drop i)) ∧ Hid t.ok ∧ BoxN wr b6 [.slice sA ss.length sc,.slice nA ns.length nc,.int .u64 (t.cur.toNat:Int)] ∧ TabQ wr (fun k => P k ∧ k ≠ b4) sA sc ss nA nc ns ∧ Hid (ss.map plS = t.ss) ∧ Hid (ns.map plN = t.ns) ∧ BoxN wr b4 [.slice none 0 0,.slice none 0 0,.int .u64 0] ∧ Below w.heap.size w wr) (fun iv _ => l.length - (intOf iv).toNat)
 case atStart => exact ⟨0,c.t,sA,sc,ss,nA,nc,ns,rfl,Nat.zero_le _,hide rfl,hide HT0.out.2.2.2,y6,hT2,hide HT0.out.2.1,hide HT0.out.2.2.1,y4b,hbb⟩
 case round =>
  clear y6 hT2 y4b hbb
  clear HT0
  obtain ⟨i,t,sA,sc,ss,nA,nc,ns,rfl,hi,hw,htok,y6,hT,e1,e2,y4,hbr⟩:=hrel
  have hbd:=htok.out.bd e1.out e2.out
  have z4:=y4.z
  have z6:=y6.z
  by_cases hlt:i < l.length
  ·obtain ⟨b,off,rfl,hb,hx⟩:=Rd.el fdV 4 fdV_length (HR.out.low hbr).rd hlt (by omega)
   have hdr:l.drop i = l.getD i default :: l.drop (i + 1):=by
    rw [List.drop_eq_getElem_cons hlt,List.getD_eq_getElem?_getD,List.getElem?_eq_getElem hlt]
    rfl
   obtain ⟨f,hf⟩:∃ f,l.getD i default = f:=⟨_,rfl⟩
   rw [hf] at hdr hx
   have x0:=hx 0 _ rfl
   rw [Nat.add_zero] at x0
   have x1:=hx 1 _ rfl
   have x2:=hx 2 _ rfl
   have x3:=hx 3 _ rfl
   have HWD:Hid (wider c.t l = wider t (f :: l.drop (i + 1))):=hide (by rw [hw.out,hdr])
   have hbA:=(Below.refl wr.heap.size wr).alloc (Nat.le_refl _) (.cells #[.int .u32 (f.id.toNat:Int),.string f.name,.int .u8 (f.kind.toNat:Int),.bool f.need] 89)
   have y8:=boxN_new wr #[.int .u32 (f.id.toNat:Int),.string f.name,.int .u8 (f.kind.toNat:Int),.bool f.need] 89
   have y4A:=y4.keep hbA z4
   have y6A:=y6.keep hbA z6
   have hTA:=hT.low hbA
   have hbrA:=below_call hbr hbr.size hbA
   clear hx hdr hf hb hw hT y4 y6 hbr
   go_upto_region 5 with fail
   generalize wr.alloc (.cells #[.int .u32 (f.id.toNat:Int),.string f.name,.int .u8 (f.kind.toNat:Int),.bool f.need] 89) = w3 at *
   have hz48:wr.heap.size ≠ b4 ∧ wr.heap.size ≠ b6:=⟨by omega,by omega⟩
   generalize wr.heap.size = b8 at *
   clear x0 x1 x2 x3 hbA z4 z6
   have g0:=y8.cell 0 _ rfl
   have g1:=y8.cell 1 _ rfl
   have g2:=y8.cell 2 _ rfl
   have g3:=y8.cell 3 _ rfl
   have r0:=y4A.cell 0 _ rfl
   have r1:=y4A.cell 1 _ rfl
   have r2:=y4A.cell 2 _ rfl
   have f0:=y4A.free 0 (by simp)
   have f1:=y4A.free 1 (by simp)
   have f2:=y4A.free 2 (by simp)
   have hbad:Hid (∀ (er:Nat),wider c.t l = (default,er) → WdEnd P w (wider c.t l) (.returned (.tuple #[.agg #[.slice none 0 0,.slice none 0 0,.int .u64 0],.int .i64 (er:Int)])) (set3b w3 b4 (.slice none 0 0) (.slice none 0 0) (.int .u64 0))):=hide (fun er h => by
    rw [h]
    exact ⟨none,0,[],none,0,[],rfl,.nil _ _,rfl,rfl,below_set3b hbrA (by have:=HB4.out;omega)⟩)
   by_cases harg:f.id ≠ 0 ∨ f.need = true
   ·have HG:=hide (hbad.out 1 (by rw [HWD.out,wider_arg harg]))
    have hys:=y4A.set3b (v0:=.slice none 0 0) (v1:=.slice none 0 0) (v2:=.int .u64 0)
    have HYS:=hide hys
    by_cases hid0:(f.id.toNat:Int) = 0
    ·have hnd:f.need = true:=by
      rcases harg with h | h
      ·exact absurd (UInt32.toNat_inj.1 (show f.id.toNat = (0:UInt32).toNat by simpa using hid0)) h
      ·exact h
     have t23:((f.id.toNat:Int) != 0) = false:=by simp [hid0]
     rw [hnd] at g3
     clear harg hid0 hys hbad hnd y4A y6A y8 hTA hbrA
     go_wp2_with fail
     refine bodyPost_ret (ret_tb2 (b:=b4) rfl _ _ rfl HYS.out) rfl ?_
     exact HG.out
    ·have t23:((f.id.toNat:Int) != 0) = true:=by rw [bne_iff_ne];exact hid0
     clear harg hid0 hys hbad y4A y6A y8 hTA hbrA
     go_wp2_with fail
     refine bodyPost_ret (ret_tb2 (b:=b4) rfl _ _ rfl HYS.out) rfl ?_
     exact HG.out
   ·have hnd:f.need = false:=by
     cases h:f.need with
     | false => rfl
     | true => exact absurd (.inr h) harg
    have t23:((f.id.toNat:Int) != 0) = false:=by
     have:f.id = 0:=Classical.byContradiction fun h => harg (.inl h)
     rw [this]
     rfl
    rw [hnd] at g3
    have HARG:=hide harg
    clear harg hnd
    have u0:=y6A.cell 0 _ rfl
    have z6:=y6A.z
    have z8:=y8.z
    obtain ⟨x,hxd⟩:∃ x,ss.getD (ss.length - 1) default = x:=⟨_,rfl⟩
    have hss1:=hbd.s1
    have hlast:=last_map e1.out hbd.s1
    rw [hxd] at hlast
    have hxm:x ∈ ss:=by rw [← hxd];exact getD_mem (by omega)
    have hxr:=(hTA.si x hxm).rd
    obtain ⟨rb,ro,rfl,hrb,hrc⟩:=Rd.el slV 2 slV_length hTA.s.rd (i:=ss.length - 1) (by omega) (by omega)
    rw [hxd] at hrc
    have s0:=hrc 0 _ rfl
    rw [Nat.add_zero] at s0
    have s1:=hrc 1 _ rfl
    have hsub:IntKind.i64.wrap ((ss.length:Int) - 1) = ((ss.length - 1:Nat):Int):=by
     have h16:=hbd.s16
     rw [IntWalk.i64_in _ ⟨by omega,by omega⟩]
     omega
    have hsl:ss.length - 1 < ss.length:=by omega
    have HLA:=hide (And.intro hlast (And.intro hTA (And.intro hbrA hbd)))
    have HY:=hide (And.intro y4A (And.intro y6A y8))
    clear hxd hrc hlast hTA hbrA hbd y4A y6A y8
    go_upto_region 7 with fail
    have hbd:=(Below.refl w3.heap.size w3).drew
    have zd:w3.drew.heap.size = w3.heap.size:=rfl
    refine wp_region_held_drew (S:=fun w' => w'.cell? ⟨b6,0,none⟩ = some (.slice (some ⟨rb,ro,none⟩) ss.length sc) ∧ w'.cell? ⟨b8,1,none⟩ = some (.string f.name) ∧ w'.cell? ⟨b8,2,none⟩ = some (.int .u8 (f.kind.toNat:Int)) ∧ w'.cell? ⟨rb,ro + (ss.length - 1) * 2,none⟩ = some (.int .u32 (x.id.toNat:Int)) ∧ w'.cell? ⟨rb,ro + (ss.length - 1) * 2 + 1,none⟩ = some (.slice x.A x.fs.length x.c)) (by kernel_rfl) ?_ (fun hHeld => ?_)
    ·exact ⟨u0,g1,g2,s0,s1⟩
    refine wpAnyH_take (i:=0) (v:=?_) rfl (by kernel_rfl) (by kernel_rfl) (by kernel_rfl) (fun _ _ _ h => h) (Or.inl ⟨by rfl,?_⟩) hHeld ?_
    rotate_left 1
    ·(intro w' hSw;obtain ⟨q1,q2,q3,q4,q5⟩:=hSw;go_simp;first | done | with_reducible rfl)
    (try simp only [Act.put,zA0])
    refine wpAnyH_take (i:=1) (v:=?_) rfl (by kernel_rfl) (by kernel_rfl) (by kernel_rfl) (fun _ _ _ h => h) (Or.inl ⟨by rfl,?_⟩) hHeld ?_
    rotate_left 1
    ·(intro w' hSw;obtain ⟨q1,q2,q3,q4,q5⟩:=hSw;go_simp;first | done | with_reducible rfl)
    (try simp only [Act.put])
    refine wpAnyH_take (i:=2) (v:=?_) rfl (by kernel_rfl) (by kernel_rfl) (by kernel_rfl) (fun _ _ _ h => h) (Or.inl ⟨by rfl,?_⟩) hHeld ?_
    rotate_left 1
    ·(intro w' hSw;obtain ⟨q1,q2,q3,q4,q5⟩:=hSw;go_simp;first | done | with_reducible rfl)
    (try simp only [Act.put])
    refine wpAnyH_take (i:=3) (v:=?_) rfl (by kernel_rfl) (by kernel_rfl) (by kernel_rfl) (fun _ _ _ h => h) (Or.inl ⟨by rfl,?_⟩) hHeld ?_
    rotate_left 1
    ·(intro w' hSw;obtain ⟨q1,q2,q3,q4,q5⟩:=hSw;go_simp;first | done | with_reducible rfl)
    (try simp only [Act.put])
    refine wpAnyH_take (i:=4) (v:=?_) rfl (by kernel_rfl) (by kernel_rfl) (by kernel_rfl) (fun _ _ _ h => h) (Or.inl ⟨by rfl,?_⟩) hHeld ?_
    rotate_left 1
    ·(intro w' hSw;obtain ⟨q1,q2,q3,q4,q5⟩:=hSw;go_simp;first | done | with_reducible rfl)
    (try simp only [Act.put])
    refine wpAnyH_take (i:=5) (v:=?_) rfl (by kernel_rfl) (by kernel_rfl) (by kernel_rfl) (fun _ _ _ h => h) (Or.inl ⟨by rfl,?_⟩) hHeld ?_
    rotate_left 1
    ·(intro w' hSw;obtain ⟨q1,q2,q3,q4,q5⟩:=hSw;go_simp;first | done | with_reducible rfl)
    (try simp only [Act.put])
    refine wpAnyH_take (i:=6) (v:=?_) rfl (by kernel_rfl) (by kernel_rfl) (by kernel_rfl) (fun _ _ _ h => h) (Or.inl ⟨by rfl,?_⟩) hHeld ?_
    rotate_left 1
    ·(intro w' hSw;obtain ⟨q1,q2,q3,q4,q5⟩:=hSw;go_simp;first | done | with_reducible rfl)
    (try simp only [Act.put])
    refine wpAnyH_take (i:=7) (v:=?_) rfl (by kernel_rfl) (by kernel_rfl) (by kernel_rfl) (fun _ _ _ h => h) (Or.inl ⟨by rfl,?_⟩) hHeld ?_
    rotate_left 1
    ·(intro w' hSw;obtain ⟨q1,q2,q3,q4,q5⟩:=hSw;go_simp;first | done | with_reducible rfl)
    (try simp only [Act.put])
    refine wpAnyH_take (i:=8) (v:=?_) rfl (by kernel_rfl) (by kernel_rfl) (by kernel_rfl) (fun _ _ _ h => h) (Or.inl ⟨by rfl,?_⟩) hHeld ?_
    rotate_left 1
    ·(intro w' hSw;obtain ⟨q1,q2,q3,q4,q5⟩:=hSw;go_simp;first | done | with_reducible rfl)
    (try simp only [Act.put])
    refine wpAnyH_take (i:=9) (v:=?_) rfl (by kernel_rfl) (by kernel_rfl) (by kernel_rfl) (fun _ _ _ h => h) (Or.inl ⟨by rfl,?_⟩) hHeld ?_
    rotate_left 1
    ·(intro w' hSw;obtain ⟨q1,q2,q3,q4,q5⟩:=hSw;go_simp;first | done | with_reducible rfl)
    (try simp only [Act.put])
    refine wpAnyH_take (i:=10) (v:=?_) rfl (by kernel_rfl) (by kernel_rfl) (by kernel_rfl) (fun _ _ _ h => h) (Or.inl ⟨by rfl,?_⟩) hHeld ?_
    rotate_left 1
    ·(intro w' hSw;obtain ⟨q1,q2,q3,q4,q5⟩:=hSw;go_simp;first | done | with_reducible rfl)
    (try simp only [Act.put])
    refine wpAnyH_take (i:=11) (v:=?_) rfl (by kernel_rfl) (by kernel_rfl) (by kernel_rfl) (fun _ _ _ h => h) (Or.inl ⟨by rfl,?_⟩) hHeld ?_
    rotate_left 1
    ·(intro w' hSw;obtain ⟨q1,q2,q3,q4,q5⟩:=hSw;go_simp;first | done | with_reducible rfl)
    (try simp only [Act.put])
    refine wpAnyH_ready (rs:=[12,16]) (by kernel_rfl) (by simp) ?_
    refine AllReadyH.cons rfl (fun K hK => ?_) (AllReadyH.cons rfl (fun K hK => ?_) AllReadyH.nil)
    ·have hbW:Below w3.heap.size w3 w3.drew:=hbd
     go_simp
     go_at_call 91
     refine (schAdd w3.drew x.id x.fs.length x.c x.A x.fs ((hxr.below' hbW (Nat.le_refl _)).more hbW.size) f.name f.kind.toNat f.kind.toNat_lt).mono ?_
     rintro e wq ⟨v,rfl,⟨A9,c9,rfl,hr9⟩,hbq⟩
     have hbQ:=below_call hbW hbW.size hbq
     refine hK.out _ _ ⟨(hbQ.cell (p:=⟨b6,0,none⟩) z6).trans u0,(hbQ.cell (p:=⟨b8,1,none⟩) z8).trans g1,(hbQ.cell (p:=⟨b8,2,none⟩) z8).trans g2,(hbQ.cell (p:=⟨rb,ro + (ss.length - 1) * 2,none⟩) hrb).trans s0,(hbQ.cell (p:=⟨rb,ro + (ss.length - 1) * 2 + 1,none⟩) hrb).trans s1⟩ (fun hHeld => ?_)
     clear hK K
     (try simp only [Act.put,zA0,zB0,zC0])
     refine wpAnyH_take (i:=13) (v:=?_) rfl (by kernel_rfl) (by kernel_rfl) (by kernel_rfl) (fun _ _ _ h => h) (Or.inl ⟨by rfl,?_⟩) hHeld ?_
     rotate_left 1
     ·(intro w' hSw;obtain ⟨q1,q2,q3,q4,q5⟩:=hSw;go_simp;first | done | with_reducible rfl)
     (try simp only [Act.put,zA0])
     refine wpAnyH_take (i:=14) (v:=?_) rfl (by kernel_rfl) (by kernel_rfl) (by kernel_rfl) (fun _ _ _ h => h) (Or.inl ⟨by rfl,?_⟩) hHeld ?_
     rotate_left 1
     ·(intro w' hSw;obtain ⟨q1,q2,q3,q4,q5⟩:=hSw;go_simp;first | done | with_reducible rfl)
     (try simp only [Act.put])
     refine wpAnyH_take (i:=15) (v:=?_) rfl (by kernel_rfl) (by kernel_rfl) (by kernel_rfl) (fun _ _ _ h => h) (Or.inl ⟨by rfl,?_⟩) hHeld ?_
     rotate_left 1
     ·(intro w' hSw;obtain ⟨q1,q2,q3,q4,q5⟩:=hSw;go_simp;first | done | with_reducible rfl)
     (try simp only [Act.put])
     refine wpAnyH_ready (rs:=[16]) (by kernel_rfl) (by simp) ?_
     refine AllReadyH.cons rfl (fun K hK => ?_) AllReadyH.nil
     go_simp
     have hbA:=hbQ.alloc hbQ.size (.cells #[.int .u32 0,.slice none 0 0] 33)
     have y9:=boxN_new wq #[.int .u32 0,.slice none 0 0] 33
     have hrA:=(hr9.alloc (Nat.le_refl _) (.cells #[.int .u32 0,.slice none 0 0] 33)).more (show wq.heap.size ≤ (wq.alloc (.cells #[.int .u32 0,.slice none 0 0] 33)).heap.size by simp)
     have hrne:∀ g off,0 < (addFds x.id x.fs f.name f.kind.toNat).length → A9 = some ⟨g,off,none⟩ → g ≠ wq.heap.size:=fun g off h0 q => by obtain ⟨b2,o2,e,hb2,_⟩:=hr9.at_ h0;rw [q] at e;injection e with e;injection e with e;omega
     have hz9:w3.heap.size ≤ wq.heap.size:=hbQ.size
     refine hK.out _ _ ⟨(hbA.cell (p:=⟨b6,0,none⟩) z6).trans u0,(hbA.cell (p:=⟨b8,1,none⟩) z8).trans g1,(hbA.cell (p:=⟨b8,2,none⟩) z8).trans g2,(hbA.cell (p:=⟨rb,ro + (ss.length - 1) * 2,none⟩) hrb).trans s0,(hbA.cell (p:=⟨rb,ro + (ss.length - 1) * 2 + 1,none⟩) hrb).trans s1⟩ (fun hHeld => ?_)
     clear hK K
     (try simp only [Act.put,zA0,zB0,zC0])
     generalize wq.alloc (.cells #[.int .u32 0,.slice none 0 0] 33) = wA at *
     generalize wq.heap.size = b9 at *
     clear hr9 hbQ hbq hbW
     have hAz:=hbA.size
     have n6:b6 ≠ b9:=by omega
     have m6:b6 < wA.heap.size:=by omega
     have m8:b8 < wA.heap.size:=by omega
     have mr:rb < wA.heap.size:=by omega
     have n8:b8 ≠ b9:=by omega
     have nr:rb ≠ b9:=by omega
     obtain ⟨fs9,hfs9⟩:∃ fs9,addFds x.id x.fs f.name f.kind.toNat = fs9:=⟨_,rfl⟩
     obtain ⟨id9,hid9⟩:∃ id9,addId x.id x.fs f.name f.kind.toNat = id9:=⟨_,rfl⟩
     obtain ⟨er,her⟩:∃ er,addErr x.id x.fs f.name f.kind.toNat = er:=⟨_,rfl⟩
     (try simp only [hfs9,hid9,her])
     (try simp only [hfs9] at hrA hrne)
     have o9:=((Oth.refl b9 wA).set 0 (.int .u32 (id9.toNat:Int))).set 1 (.slice A9 fs9.length c9)
     have y99:=(y9.set (j:=0) (.int .u32 (id9.toNat:Int)) rfl).set (j:=1) (.slice A9 fs9.length c9) rfl
     have d0:=y9.cell 0 _ rfl
     have d1:=y9.cell 1 _ rfl
     have k0:=y9.free 0 (by simp)
     have k1:=y9.free 1 (by simp)
     refine wpAnyH_ready (rs:=[17]) (by decide +kernel) (by simp) ?_
     refine AllReadyH.cons rfl (fun K hK => ?_) AllReadyH.nil
     go_simp
     refine hK.out _ _ ⟨(o9.cell (p:=⟨b6,0,none⟩) m6 n6).trans ((hbA.cell (p:=⟨b6,0,none⟩) z6).trans u0),(o9.cell (p:=⟨b8,1,none⟩) m8 n8).trans ((hbA.cell (p:=⟨b8,1,none⟩) z8).trans g1),(o9.cell (p:=⟨b8,2,none⟩) m8 n8).trans ((hbA.cell (p:=⟨b8,2,none⟩) z8).trans g2),(o9.cell (p:=⟨rb,ro + (ss.length - 1) * 2,none⟩) mr nr).trans ((hbA.cell (p:=⟨rb,ro + (ss.length - 1) * 2,none⟩) hrb).trans s0),(o9.cell (p:=⟨rb,ro + (ss.length - 1) * 2 + 1,none⟩) mr nr).trans ((hbA.cell (p:=⟨rb,ro + (ss.length - 1) * 2 + 1,none⟩) hrb).trans s1)⟩ (fun hHeld => ?_)
     clear hK K
     (try simp only [Act.put,zA0,zB0,zC0])
     refine wpAnyH_take (i:=18) (v:=?_) rfl (by decide +kernel) (by decide +kernel) (by decide +kernel) (fun _ _ _ h => h) (Or.inl ⟨by rfl,?_⟩) hHeld ?_
     rotate_left 1
     ·(intro w' hSw;obtain ⟨q1,q2,q3,q4,q5⟩:=hSw;go_simp;first | done | with_reducible rfl)
     (try simp only [Act.put,zA0])
     refine wpAnyH_done (by decide +kernel) ?_ _
     clear hHeld n6 n8 m6 m8 mr nr k0 k1 d0 d1
     obtain ⟨hlast,hTA,hbrA,hbd⟩:=HLA.out
     obtain ⟨y4A,y6A,y8⟩:=HY.out
     have hZ:=hbA.trans (o9.belowB hz9 hAz)
     have hrZ:=rd_out hrA hrne o9
     have hT5:=hTA.low hZ
     have hbr5:=below_call hbrA hbrA.size hZ
     have y4:=y4A.keep hZ y4A.z
     have y6:=y6A.keep hZ y6A.z
     clear hbA o9 hTA hbrA y4A y6A y8 hrA hrne y9 hAz hz9 u0 g0 g1 g2 g3 f0 f1 f2 r0 r1 r2 s0 s1 hbad hxr t23 hrb
     generalize (wA.setCell ⟨b9,0,none⟩ (.int .u32 (id9.toNat:Int))).setCell ⟨b9,1,none⟩ (.slice A9 fs9.length c9) = w5 at *
     have r0:=y4.cell 0 _ rfl
     have r1:=y4.cell 1 _ rfl
     have r2:=y4.cell 2 _ rfl
     have f0:=y4.free 0 (by simp)
     have f1:=y4.free 1 (by simp)
     have f2:=y4.free 2 (by simp)
     have hbad:Hid (∀ (er:Nat) (w5:World),Below w.heap.size w w5 → wider c.t l = (default,er) → WdEnd P w (wider c.t l) (.returned (.tuple #[.agg #[.slice none 0 0,.slice none 0 0,.int .u64 0],.int .i64 (er:Int)])) (set3b w5 b4 (.slice none 0 0) (.slice none 0 0) (.int .u64 0))):=hide (fun er w5 hb h => by
      rw [h]
      exact ⟨none,0,[],none,0,[],rfl,.nil _ _,rfl,rfl,below_set3b hb (by have:=HB4.out;omega)⟩)
     have hal:addErr t.lastS.1 t.lastS.2 f.name f.kind.toNat = er:=by rw [hlast];exact her
     have hfl:addFds t.lastS.1 t.lastS.2 f.name f.kind.toNat = fs9:=by rw [hlast];exact hfs9
     have hil:addId t.lastS.1 t.lastS.2 f.name f.kind.toNat = id9:=by rw [hlast];exact hid9
     by_cases he0:er = 0
     ·have t46:((er:Int) != 0) = false:=by simp [he0]
      have v0:=y6.cell 0 _ rfl
      have v1:=y6.cell 1 _ rfl
      have v2:=y6.cell 2 _ rfl
      have n0:=y99.cell 0 _ rfl
      have n1:=y99.cell 1 _ rfl
      have e0:=y6.free 0 (by simp)
      have e1':=y6.free 1 (by simp)
      have e2':=y6.free 2 (by simp)
      have hfl9:fs9.length ≤ 1000000:=by
       rw [← hfs9]
       have h1:=(hbd.f8 x hxm).2
       unfold addFds
       split
       ·simp;omega
       ·simp
      have hgr:=metaGrow w5 _ sc ss nA nc ns t.cur.toNat hT5.tab (by have:=hbd.s16;omega) (fun s hs => by have:=(hbd.f8 s hs).2;omega) (by have:=hbd.n32;omega) (fun s hs => by have:=hbd.m8 s hs;omega) id9 fs9 A9 c9 hrZ hfl9
      have y4z:=y4.z
      have y6z:=y6.z
      have hbz:=hbr5.size
      have h64:b6 ≠ b4:=by omega
      have HALL:=hide (And.intro hT5 (And.intro hbr5 (And.intro y4 (And.intro y6 (And.intro hal (And.intro hfl hil))))))
      clear hT5 hbr5 y4 y6 hal hfl hil hrZ hfl9 hlast hbd her hfs9 hid9 y99
      have hzz5:=hZ.size
      have z46:b4 < w5.heap.size ∧ b6 < w5.heap.size:=⟨y4z,y6z⟩
      go_upto_region 10 with fail
      go_wp2_with fail
      refine hgr.mono ?_
      rintro e w6 hst
      clear hgr v0 v1 v2 n0 n1 e0 e1' e2' r0 r1 r2 f0 f1 f2
      obtain ⟨hT5,hbr5,y4,y6,hal,hfl,hil⟩:=HALL.out
      by_cases hge:growErr (ss.map plS) (ns.map plN) t.cur.toNat (id9,fs9) = 0
      ·unfold GrowEnd at hst
       rw [if_pos hge] at hst
       obtain ⟨sA2,sc2,ss2,nA2,nc2,ns2,rfl,hO,q1,q2,hb6⟩:=hst
       have hb06:=below_call hbr5 hbr5.size hb6
       have y46:=y4.keep hb6 y4z
       have y66:=y6.keep hb6 y6z
       have v0:=y66.cell 0 _ rfl
       have v1:=y66.cell 1 _ rfl
       have v2:=y66.cell 2 _ rfl
       have e0:=y66.free 0 (by simp)
       have e1':=y66.free 1 (by simp)
       have e2':=y66.free 2 (by simp)
       have t56:((0:Int) != 0) = false:=rfl
       have hadd:IntKind.i64.wrap ((i:Int) + 1) = ((i + 1:Nat):Int):=by
        rw [IntWalk.i64_in _ ⟨by omega,by omega⟩]
        omega
       have HK:=hide (And.intro hO (And.intro q1 (And.intro q2 (And.intro hb06 (And.intro y46 (And.intro y66 hge))))))
       clear hO q1 q2 hb06 y46 y66 hge y4 y6 hT5 hbr5 hal hfl hil hb6 hbad
       go_wp2_with fail
       obtain ⟨hO,q1,q2,hb06,y46,y66,hge⟩:=HK.out
       obtain ⟨_,_,_,_,hal,hfl,hil⟩:=HALL.out
       refine ⟨⟨i + 1,⟨t.ss ++ [(id9,fs9)],t.ns,t.cur⟩,sA2,sc2,ss2,nA2,nc2,ns2,by rw [Int.natCast_add];rfl,hlt,?_,?_,y66.set3b,.own (hO.set3b z46.2) (fun k hk _ => ⟨hP k (by have:=hbz;omega),by omega⟩),?_,?_,((y46.else (p:=⟨b6,0,none⟩) h64 _).else (p:=⟨b6,1,none⟩) h64 _).else (p:=⟨b6,2,none⟩) h64 _,below_set3b hb06 H6.out⟩,?_⟩
       ·refine hide ?_
        rw [HWD.out,wider_on HARG.out (by rw [hal];exact he0) (by rw [hil,hfl, ← e1.out, ← e2.out];exact hge),hil,hfl]
       ·refine hide (grow_ok ?_)
        rw [← e1.out, ← e2.out]
        exact hge
       ·exact hide (by rw [q1,e1.out])
       ·exact hide (by rw [q2,e2.out])
       ·show l.length - ((i:Int) + 1).toNat < l.length - (i:Int).toNat
        omega
      ·unfold GrowEnd at hst
       rw [if_neg hge] at hst
       obtain ⟨sA2,sc2,ss2,nA2,nc2,ns2,rfl,hO,q1,q2,hb6⟩:=hst
       have hb06:=below_call hbr5 hbr5.size hb6
       have y46:=y4.keep hb6 y4z
       have y66:=y6.keep hb6 y6z
       have v0:=y66.cell 0 _ rfl
       have v1:=y66.cell 1 _ rfl
       have v2:=y66.cell 2 _ rfl
       have e0:=y66.free 0 (by simp)
       have e1':=y66.free 1 (by simp)
       have e2':=y66.free 2 (by simp)
       have r0:=y46.cell 0 _ rfl
       have r1:=y46.cell 1 _ rfl
       have r2:=y46.cell 2 _ rfl
       have f0:=y46.free 0 (by simp)
       have f1:=y46.free 1 (by simp)
       have f2:=y46.free 2 (by simp)
       have hew:wider c.t l = (default,growErr (ss.map plS) (ns.map plN) t.cur.toNat (id9,fs9)):=by
        rw [HWD.out,wider_grow HARG.out (by rw [hal];exact he0) (by rw [hil,hfl, ← e1.out, ← e2.out];exact hge),hil,hfl, ← e1.out, ← e2.out]
       generalize growErr (ss.map plS) (ns.map plN) t.cur.toNat (id9,fs9) = ge at *
       have t56:((ge:Int) != 0) = true:=by rw [bne_iff_ne];omega
       have HG:=hide (hbad.out ge (set3b w6 b6 (.slice sA2 ss2.length sc2) (.slice nA2 ns2.length nc2) (.int .u64 0)) (below_set3b hb06 H6.out) hew)
       have HYS:=hide ((((y46.else (p:=⟨b6,0,none⟩) h64 (.slice sA2 ss2.length sc2)).else (p:=⟨b6,1,none⟩) h64 (.slice nA2 ns2.length nc2)).else (p:=⟨b6,2,none⟩) h64 (.int .u64 0)).set3b (v0:=.slice none 0 0) (v1:=.slice none 0 0) (v2:=.int .u64 0))
       clear hO q1 q2 hb06 y46 y66 hge y4 y6 hT5 hbr5 hal hfl hil hb6 hbad hew
       go_wp2_with fail
       refine bodyPost_ret (ret_tb2 (b:=b4) rfl _ _ rfl HYS.out) rfl ?_
       exact HG.out
     ·have t46:((er:Int) != 0) = true:=by rw [bne_iff_ne];omega
      have HG:=hide (hbad.out er w5 hbr5 (by rw [HWD.out,wider_add HARG.out (by rw [hal];exact he0),hal]))
      have HYS:=hide (y4.set3b (v0:=.slice none 0 0) (v1:=.slice none 0 0) (v2:=.int .u64 0))
      clear y4 y6 y99 hZ hrZ hT5 hbr5 hal hfl hil hlast hbd hbad her hfs9 hid9
      go_wp2_with fail
      refine bodyPost_ret (ret_tb2 (b:=b4) rfl _ _ rfl HYS.out) rfl ?_
      exact HG.out
    ·go_simp
     have hbA0:=(hbd.alloc (Nat.le_of_eq zd.symm) (.cells #[.int .u32 0,.slice none 0 0] 33))
     have hbA0:Below w3.heap.size w3 (w3.alloc (.cells #[.int .u32 0,.slice none 0 0] 33)).drew:=((Below.refl w3.heap.size w3).alloc (Nat.le_refl _) (.cells #[.int .u32 0,.slice none 0 0] 33)).drew
     have y90:BoxN (w3.alloc (.cells #[.int .u32 0,.slice none 0 0] 33)).drew w3.heap.size [.int .u32 0,.slice none 0 0]:=by
      have x:=boxN_new w3 #[.int .u32 0,.slice none 0 0] 33
      exact ⟨x.cell,x.free,x.z⟩
     have hh90:(w3.alloc (.cells #[.int .u32 0,.slice none 0 0] 33)).drew.heap[w3.heap.size]? = some (.cells #[.int .u32 0,.slice none 0 0] 33 (0,0)):=heap_alloc_new w3 _
     refine hK.out _ _ ⟨(hbA0.cell (p:=⟨b6,0,none⟩) z6).trans u0,(hbA0.cell (p:=⟨b8,1,none⟩) z8).trans g1,(hbA0.cell (p:=⟨b8,2,none⟩) z8).trans g2,(hbA0.cell (p:=⟨rb,ro + (ss.length - 1) * 2,none⟩) hrb).trans s0,(hbA0.cell (p:=⟨rb,ro + (ss.length - 1) * 2 + 1,none⟩) hrb).trans s1⟩ (fun hHeld => ?_)
     clear hK K
     (try simp only [Act.put,zA0,zB0,zC0])
     generalize (w3.alloc (.cells #[.int .u32 0,.slice none 0 0] 33)).drew = wp at *
     obtain ⟨b9,hb9⟩:∃ b,b = w3.heap.size:=⟨_,rfl⟩
     rw [← hb9] at y90 hh90
     (try simp only [← hb9])
     have hz9:w3.heap.size ≤ b9:=by omega
     clear hb9
     have hbW:=hbA0
     refine wpAnyH_ready (rs:=[12]) (by kernel_rfl) (by simp) ?_
     refine AllReadyH.cons rfl (fun K hK => ?_) AllReadyH.nil
     go_simp
     go_at_call 91
     refine (schAdd wp x.id x.fs.length x.c x.A x.fs ((hxr.below' hbW (Nat.le_refl _)).more hbW.size) f.name f.kind.toNat f.kind.toNat_lt).mono ?_
     rintro e wA ⟨v,rfl,⟨A9,c9,rfl,hr9⟩,hbq⟩
     have hbA:=below_call hbW hbW.size hbq
     have y9:=y90.keep hbq y90.z
     have hrA:=hr9
     have hrne:∀ g off,0 < (addFds x.id x.fs f.name f.kind.toNat).length → A9 = some ⟨g,off,none⟩ → g ≠ b9:=fun g off h0 q => row_ne_new hr9 ((hbq.block b9 y90.z).trans hh90) h0 g off q
     refine hK.out _ _ ⟨(hbA.cell (p:=⟨b6,0,none⟩) z6).trans u0,(hbA.cell (p:=⟨b8,1,none⟩) z8).trans g1,(hbA.cell (p:=⟨b8,2,none⟩) z8).trans g2,(hbA.cell (p:=⟨rb,ro + (ss.length - 1) * 2,none⟩) hrb).trans s0,(hbA.cell (p:=⟨rb,ro + (ss.length - 1) * 2 + 1,none⟩) hrb).trans s1⟩ (fun hHeld => ?_)
     clear hK K
     (try simp only [Act.put,zA0,zB0,zC0])
     clear hr9 hbW hbq hbA0 y90 hh90
     refine wpAnyH_take (i:=13) (v:=?_) rfl (by kernel_rfl) (by kernel_rfl) (by kernel_rfl) (fun _ _ _ h => h) (Or.inl ⟨by rfl,?_⟩) hHeld ?_
     rotate_left 1
     ·(intro w' hSw;obtain ⟨q1,q2,q3,q4,q5⟩:=hSw;go_simp;first | done | with_reducible rfl)
     (try simp only [Act.put,zA0])
     refine wpAnyH_take (i:=14) (v:=?_) rfl (by kernel_rfl) (by kernel_rfl) (by kernel_rfl) (fun _ _ _ h => h) (Or.inl ⟨by rfl,?_⟩) hHeld ?_
     rotate_left 1
     ·(intro w' hSw;obtain ⟨q1,q2,q3,q4,q5⟩:=hSw;go_simp;first | done | with_reducible rfl)
     (try simp only [Act.put])
     refine wpAnyH_take (i:=15) (v:=?_) rfl (by kernel_rfl) (by kernel_rfl) (by kernel_rfl) (fun _ _ _ h => h) (Or.inl ⟨by rfl,?_⟩) hHeld ?_
     rotate_left 1
     ·(intro w' hSw;obtain ⟨q1,q2,q3,q4,q5⟩:=hSw;go_simp;first | done | with_reducible rfl)
     (try simp only [Act.put])
     have hAz:=hbA.size
     have n6:b6 ≠ b9:=by omega
     have m6:b6 < wA.heap.size:=by omega
     have m8:b8 < wA.heap.size:=by omega
     have mr:rb < wA.heap.size:=by omega
     have n8:b8 ≠ b9:=by omega
     have nr:rb ≠ b9:=by omega
     obtain ⟨fs9,hfs9⟩:∃ fs9,addFds x.id x.fs f.name f.kind.toNat = fs9:=⟨_,rfl⟩
     obtain ⟨id9,hid9⟩:∃ id9,addId x.id x.fs f.name f.kind.toNat = id9:=⟨_,rfl⟩
     obtain ⟨er,her⟩:∃ er,addErr x.id x.fs f.name f.kind.toNat = er:=⟨_,rfl⟩
     (try simp only [hfs9,hid9,her])
     (try simp only [hfs9] at hrA hrne)
     have o9:=((Oth.refl b9 wA).set 0 (.int .u32 (id9.toNat:Int))).set 1 (.slice A9 fs9.length c9)
     have y99:=(y9.set (j:=0) (.int .u32 (id9.toNat:Int)) rfl).set (j:=1) (.slice A9 fs9.length c9) rfl
     have d0:=y9.cell 0 _ rfl
     have d1:=y9.cell 1 _ rfl
     have k0:=y9.free 0 (by simp)
     have k1:=y9.free 1 (by simp)
     refine wpAnyH_ready (rs:=[17]) (by decide +kernel) (by simp) ?_
     refine AllReadyH.cons rfl (fun K hK => ?_) AllReadyH.nil
     go_simp
     refine hK.out _ _ ⟨(o9.cell (p:=⟨b6,0,none⟩) m6 n6).trans ((hbA.cell (p:=⟨b6,0,none⟩) z6).trans u0),(o9.cell (p:=⟨b8,1,none⟩) m8 n8).trans ((hbA.cell (p:=⟨b8,1,none⟩) z8).trans g1),(o9.cell (p:=⟨b8,2,none⟩) m8 n8).trans ((hbA.cell (p:=⟨b8,2,none⟩) z8).trans g2),(o9.cell (p:=⟨rb,ro + (ss.length - 1) * 2,none⟩) mr nr).trans ((hbA.cell (p:=⟨rb,ro + (ss.length - 1) * 2,none⟩) hrb).trans s0),(o9.cell (p:=⟨rb,ro + (ss.length - 1) * 2 + 1,none⟩) mr nr).trans ((hbA.cell (p:=⟨rb,ro + (ss.length - 1) * 2 + 1,none⟩) hrb).trans s1)⟩ (fun hHeld => ?_)
     clear hK K
     (try simp only [Act.put,zA0,zB0,zC0])
     refine wpAnyH_take (i:=18) (v:=?_) rfl (by decide +kernel) (by decide +kernel) (by decide +kernel) (fun _ _ _ h => h) (Or.inl ⟨by rfl,?_⟩) hHeld ?_
     rotate_left 1
     ·(intro w' hSw;obtain ⟨q1,q2,q3,q4,q5⟩:=hSw;go_simp;first | done | with_reducible rfl)
     (try simp only [Act.put,zA0])
     refine wpAnyH_done (by decide +kernel) ?_ _
     clear hHeld n6 n8 m6 m8 mr nr k0 k1 d0 d1
     obtain ⟨hlast,hTA,hbrA,hbd⟩:=HLA.out
     obtain ⟨y4A,y6A,y8⟩:=HY.out
     have hZ:=hbA.trans (o9.belowB hz9 hAz)
     have hrZ:=rd_out hrA hrne o9
     have hT5:=hTA.low hZ
     have hbr5:=below_call hbrA hbrA.size hZ
     have y4:=y4A.keep hZ y4A.z
     have y6:=y6A.keep hZ y6A.z
     clear hbA o9 hTA hbrA y4A y6A y8 hrA hrne y9 hAz hz9 u0 g0 g1 g2 g3 f0 f1 f2 r0 r1 r2 s0 s1 hbad hxr t23 hrb
     generalize (wA.setCell ⟨b9,0,none⟩ (.int .u32 (id9.toNat:Int))).setCell ⟨b9,1,none⟩ (.slice A9 fs9.length c9) = w5 at *
     have r0:=y4.cell 0 _ rfl
     have r1:=y4.cell 1 _ rfl
     have r2:=y4.cell 2 _ rfl
     have f0:=y4.free 0 (by simp)
     have f1:=y4.free 1 (by simp)
     have f2:=y4.free 2 (by simp)
     have hbad:Hid (∀ (er:Nat) (w5:World),Below w.heap.size w w5 → wider c.t l = (default,er) → WdEnd P w (wider c.t l) (.returned (.tuple #[.agg #[.slice none 0 0,.slice none 0 0,.int .u64 0],.int .i64 (er:Int)])) (set3b w5 b4 (.slice none 0 0) (.slice none 0 0) (.int .u64 0))):=hide (fun er w5 hb h => by
      rw [h]
      exact ⟨none,0,[],none,0,[],rfl,.nil _ _,rfl,rfl,below_set3b hb (by have:=HB4.out;omega)⟩)
     have hal:addErr t.lastS.1 t.lastS.2 f.name f.kind.toNat = er:=by rw [hlast];exact her
     have hfl:addFds t.lastS.1 t.lastS.2 f.name f.kind.toNat = fs9:=by rw [hlast];exact hfs9
     have hil:addId t.lastS.1 t.lastS.2 f.name f.kind.toNat = id9:=by rw [hlast];exact hid9
     by_cases he0:er = 0
     ·have t46:((er:Int) != 0) = false:=by simp [he0]
      have v0:=y6.cell 0 _ rfl
      have v1:=y6.cell 1 _ rfl
      have v2:=y6.cell 2 _ rfl
      have n0:=y99.cell 0 _ rfl
      have n1:=y99.cell 1 _ rfl
      have e0:=y6.free 0 (by simp)
      have e1':=y6.free 1 (by simp)
      have e2':=y6.free 2 (by simp)
      have hfl9:fs9.length ≤ 1000000:=by
       rw [← hfs9]
       have h1:=(hbd.f8 x hxm).2
       unfold addFds
       split
       ·simp;omega
       ·simp
      have hgr:=metaGrow w5 _ sc ss nA nc ns t.cur.toNat hT5.tab (by have:=hbd.s16;omega) (fun s hs => by have:=(hbd.f8 s hs).2;omega) (by have:=hbd.n32;omega) (fun s hs => by have:=hbd.m8 s hs;omega) id9 fs9 A9 c9 hrZ hfl9
      have y4z:=y4.z
      have y6z:=y6.z
      have hbz:=hbr5.size
      have h64:b6 ≠ b4:=by omega
      have HALL:=hide (And.intro hT5 (And.intro hbr5 (And.intro y4 (And.intro y6 (And.intro hal (And.intro hfl hil))))))
      clear hT5 hbr5 y4 y6 hal hfl hil hrZ hfl9 hlast hbd her hfs9 hid9 y99
      have hzz5:=hZ.size
      have z46:b4 < w5.heap.size ∧ b6 < w5.heap.size:=⟨y4z,y6z⟩
      go_upto_region 10 with fail
      go_wp2_with fail
      refine hgr.mono ?_
      rintro e w6 hst
      clear hgr v0 v1 v2 n0 n1 e0 e1' e2' r0 r1 r2 f0 f1 f2
      obtain ⟨hT5,hbr5,y4,y6,hal,hfl,hil⟩:=HALL.out
      by_cases hge:growErr (ss.map plS) (ns.map plN) t.cur.toNat (id9,fs9) = 0
      ·unfold GrowEnd at hst
       rw [if_pos hge] at hst
       obtain ⟨sA2,sc2,ss2,nA2,nc2,ns2,rfl,hO,q1,q2,hb6⟩:=hst
       have hb06:=below_call hbr5 hbr5.size hb6
       have y46:=y4.keep hb6 y4z
       have y66:=y6.keep hb6 y6z
       have v0:=y66.cell 0 _ rfl
       have v1:=y66.cell 1 _ rfl
       have v2:=y66.cell 2 _ rfl
       have e0:=y66.free 0 (by simp)
       have e1':=y66.free 1 (by simp)
       have e2':=y66.free 2 (by simp)
       have t56:((0:Int) != 0) = false:=rfl
       have hadd:IntKind.i64.wrap ((i:Int) + 1) = ((i + 1:Nat):Int):=by
        rw [IntWalk.i64_in _ ⟨by omega,by omega⟩]
        omega
       have HK:=hide (And.intro hO (And.intro q1 (And.intro q2 (And.intro hb06 (And.intro y46 (And.intro y66 hge))))))
       clear hO q1 q2 hb06 y46 y66 hge y4 y6 hT5 hbr5 hal hfl hil hb6 hbad
       go_wp2_with fail
       obtain ⟨hO,q1,q2,hb06,y46,y66,hge⟩:=HK.out
       obtain ⟨_,_,_,_,hal,hfl,hil⟩:=HALL.out
       refine ⟨⟨i + 1,⟨t.ss ++ [(id9,fs9)],t.ns,t.cur⟩,sA2,sc2,ss2,nA2,nc2,ns2,by rw [Int.natCast_add];rfl,hlt,?_,?_,y66.set3b,.own (hO.set3b z46.2) (fun k hk _ => ⟨hP k (by have:=hbz;omega),by omega⟩),?_,?_,((y46.else (p:=⟨b6,0,none⟩) h64 _).else (p:=⟨b6,1,none⟩) h64 _).else (p:=⟨b6,2,none⟩) h64 _,below_set3b hb06 H6.out⟩,?_⟩
       ·refine hide ?_
        rw [HWD.out,wider_on HARG.out (by rw [hal];exact he0) (by rw [hil,hfl, ← e1.out, ← e2.out];exact hge),hil,hfl]
       ·refine hide (grow_ok ?_)
        rw [← e1.out, ← e2.out]
        exact hge
       ·exact hide (by rw [q1,e1.out])
       ·exact hide (by rw [q2,e2.out])
       ·show l.length - ((i:Int) + 1).toNat < l.length - (i:Int).toNat
        omega
      ·unfold GrowEnd at hst
       rw [if_neg hge] at hst
       obtain ⟨sA2,sc2,ss2,nA2,nc2,ns2,rfl,hO,q1,q2,hb6⟩:=hst
       have hb06:=below_call hbr5 hbr5.size hb6
       have y46:=y4.keep hb6 y4z
       have y66:=y6.keep hb6 y6z
       have v0:=y66.cell 0 _ rfl
       have v1:=y66.cell 1 _ rfl
       have v2:=y66.cell 2 _ rfl
       have e0:=y66.free 0 (by simp)
       have e1':=y66.free 1 (by simp)
       have e2':=y66.free 2 (by simp)
       have r0:=y46.cell 0 _ rfl
       have r1:=y46.cell 1 _ rfl
       have r2:=y46.cell 2 _ rfl
       have f0:=y46.free 0 (by simp)
       have f1:=y46.free 1 (by simp)
       have f2:=y46.free 2 (by simp)
       have hew:wider c.t l = (default,growErr (ss.map plS) (ns.map plN) t.cur.toNat (id9,fs9)):=by
        rw [HWD.out,wider_grow HARG.out (by rw [hal];exact he0) (by rw [hil,hfl, ← e1.out, ← e2.out];exact hge),hil,hfl, ← e1.out, ← e2.out]
       generalize growErr (ss.map plS) (ns.map plN) t.cur.toNat (id9,fs9) = ge at *
       have t56:((ge:Int) != 0) = true:=by rw [bne_iff_ne];omega
       have HG:=hide (hbad.out ge (set3b w6 b6 (.slice sA2 ss2.length sc2) (.slice nA2 ns2.length nc2) (.int .u64 0)) (below_set3b hb06 H6.out) hew)
       have HYS:=hide ((((y46.else (p:=⟨b6,0,none⟩) h64 (.slice sA2 ss2.length sc2)).else (p:=⟨b6,1,none⟩) h64 (.slice nA2 ns2.length nc2)).else (p:=⟨b6,2,none⟩) h64 (.int .u64 0)).set3b (v0:=.slice none 0 0) (v1:=.slice none 0 0) (v2:=.int .u64 0))
       clear hO q1 q2 hb06 y46 y66 hge y4 y6 hT5 hbr5 hal hfl hil hb6 hbad hew
       go_wp2_with fail
       refine bodyPost_ret (ret_tb2 (b:=b4) rfl _ _ rfl HYS.out) rfl ?_
       exact HG.out
     ·have t46:((er:Int) != 0) = true:=by rw [bne_iff_ne];omega
      have HG:=hide (hbad.out er w5 hbr5 (by rw [HWD.out,wider_add HARG.out (by rw [hal];exact he0),hal]))
      have HYS:=hide (y4.set3b (v0:=.slice none 0 0) (v1:=.slice none 0 0) (v2:=.int .u64 0))
      clear y4 y6 y99 hZ hrZ hT5 hbr5 hal hfl hil hlast hbd hbad her hfs9 hid9
      go_wp2_with fail
      refine bodyPost_ret (ret_tb2 (b:=b4) rfl _ _ rfl HYS.out) rfl ?_
      exact HG.out
  ·have hwd:wider c.t l = (t,0):=by
    rw [hw.out,List.drop_eq_nil_of_le (by omega)]
    rfl
   have u0:=y6.cell 0 _ rfl
   have u1:=y6.cell 1 _ rfl
   have u2:=y6.cell 2 _ rfl
   have r0:=y4.cell 0 _ rfl
   have r1:=y4.cell 1 _ rfl
   have r2:=y4.cell 2 _ rfl
   have f0:=y4.free 0 (by simp)
   have f1:=y4.free 1 (by simp)
   have f2:=y4.free 2 (by simp)
   have HYS:=hide (y4.set3b (v0:=.slice sA ss.length sc) (v1:=.slice nA ns.length nc) (v2:=.int .u64 (t.cur.toNat:Int)))
   have HG:Hid (WdEnd P w (wider c.t l) (.returned (.tuple #[.agg #[.slice sA ss.length sc,.slice nA ns.length nc,.int .u64 (t.cur.toNat:Int)],.int .i64 ((0:Nat):Int)])) (set3b wr b4 (.slice sA ss.length sc) (.slice nA ns.length nc) (.int .u64 (t.cur.toNat:Int)))):=hide (by
    rw [hwd]
    exact ⟨sA,sc,ss,nA,nc,ns,rfl,hT.set3q,e1.out,e2.out,below_set3b hbr (by have:=HB4.out;omega)⟩)
   clear y4 y6 hT hbr hwd hw hbd
   go_wp2_with fail
   refine bodyPost_ret (ret_tb2 (b:=b4) rfl _ _ rfl HYS.out) rfl ?_
   exact HG.out
end Go.Proofs.YtpfofefecamkfaaGreatDoor
