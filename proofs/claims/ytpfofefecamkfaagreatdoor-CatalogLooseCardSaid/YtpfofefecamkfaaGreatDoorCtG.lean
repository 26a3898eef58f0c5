/- THE WALK of the catalog's draft, plain parts. No statement of the seat is proved here; no condition but sizes. -/
import Derived.Test.YtpfofefecamkfaaGreatDoorCtF
namespace Go.Proofs.YtpfofefecamkfaaGreatDoor
open Go.RowKit

theorem ixA_mapN (p:Sn → Bool) (l:List Nl):ixA p (l.map plN) = ixA (fun x:Nl => p x.p) l:=by
 unfold ixA
 rw [List.any_map,List.findIdx_map]
 rfl
theorem now_ix {t:Tb} {ns:List Nl} (e:ns.map plN = t.ns):nowIx ns t.cur = t.nowI:=by
 unfold nowIx Tb.nowI sIx idAt
 rw [← e,ixA_mapN]
theorem now_at {t:Tb} {ns:List Nl} (e:ns.map plN = t.ns):snAt ns (nowIx ns t.cur) = t.now:=by
 rw [now_ix e]
 unfold snAt Tb.now
 split
 ·rw [← e]
  simp only [List.getD_eq_getElem?_getD,List.getElem?_map]
  cases ns[t.nowI.toNat]? <;> rfl
 ·rfl
/-- a snapshot's box, overwritten -/
def set7b (w:World) (b:Nat) (v0 v1 v2 v3 v4 v5 v6:Value):World:=((((((w.setCell ⟨b,0,none⟩ v0).setCell ⟨b,1,none⟩ v1).setCell ⟨b,2,none⟩ v2).setCell ⟨b,3,none⟩ v3).setCell ⟨b,4,none⟩ v4).setCell ⟨b,5,none⟩ v5).setCell ⟨b,6,none⟩ v6
section
variable {w:World} {b:Nat} {v0 v1 v2 v3 v4 v5 v6:Value}
theorem BoxN.set7b {u0 u1 u2 u3 u4 u5 u6:Value} (h:BoxN w b [u0,u1,u2,u3,u4,u5,u6]):BoxN (set7b w b v0 v1 v2 v3 v4 v5 v6) b [v0,v1,v2,v3,v4,v5,v6] :=
 ((((((h.set (j:=0) v0 rfl).set (j:=1) v1 rfl).set (j:=2) v2 rfl).set (j:=3) v3 rfl).set (j:=4) v4 rfl).set (j:=5) v5 rfl).set (j:=6) v6 rfl
theorem oth_set7b (w:World) (b:Nat) (v0 v1 v2 v3 v4 v5 v6:Value):Oth b w (Proofs.YtpfofefecamkfaaGreatDoor.set7b w b v0 v1 v2 v3 v4 v5 v6) :=
 (((((((Oth.refl b w).set 0 v0).set 1 v1).set 2 v2).set 3 v3).set 4 v4).set 5 v5).set 6 v6
theorem below_set7b {B:Nat} {w0:World} (h:Below B w0 w) (hb:B ≤ b):Below B w0 (Proofs.YtpfofefecamkfaaGreatDoor.set7b w b v0 v1 v2 v3 v4 v5 v6) :=
 ((((((h.setCell (p:=⟨b,0,none⟩) hb _).setCell (p:=⟨b,1,none⟩) hb _).setCell (p:=⟨b,2,none⟩) hb _).setCell (p:=⟨b,3,none⟩) hb _).setCell (p:=⟨b,4,none⟩) hb _).setCell (p:=⟨b,5,none⟩) hb _).setCell (p:=⟨b,6,none⟩) hb _
end
theorem ret_sn3 {fn:Func} {p u u2:Tmp} (h:fn.results = #[.cell p 43,.tmp u,.tmp u2]) (tmps:Array Value) (w:World) {b:Nat} {v0 v1 v2 v3 v4 v5 v6:Value} (hp:tmps.getD p undef = .pointer (some ⟨b,0,none⟩)) (hb:BoxN w b [v0,v1,v2,v3,v4,v5,v6]) :
 (results fn tmps).run Tryz.prog w = .ok (.tuple #[.agg #[v0,v1,v2,v3,v4,v5,v6],tmps.getD u undef,tmps.getD u2 undef]) w:=by
 rw [results_cell_tmp2 h,hp]
 have:=load_sn w b _ _ _ _ _ _ _ (hb.cell 0 _ rfl) (hb.cell 1 _ rfl) (hb.cell 2 _ rfl) (hb.cell 3 _ rfl) (hb.cell 4 _ rfl) (hb.cell 5 _ rfl) (hb.cell 6 _ rfl)
 simp [asAddr,Result.andThen,this]
theorem els_one (l:List El):∀ u ∈ elsV l,u.oneCell' = true:=by
 intro u hu
 obtain ⟨s,_,hs⟩:=List.mem_flatMap.1 hu
 exact elV_one s u hs
/-- a draft in a world -/
structure DrQ (w:World) (P:Nat → Prop) (d:Dr) (fA:Option Addr) (fc:Nat) (aA:Option Addr) (ac:Nat) (al:List El) (dA:Option Addr) (dc:Nat):Prop where
 f:RdQ w P 4 fA d.fs.length fc (fdsV d.fs)
 a:EnQ w P aA ac al
 e:al.map El.p = d.adds
 dr:RdQ w P 1 dA d.drops.length dc (strsV d.drops)
 an:al.length ≤ 1000000
 dn:d.drops.length ≤ 1000000
/-- what a draft tells: an error, or a snapshot and entries -/
def DrEnd (w:World) (Q:Nat → Prop) (r:Nat × Sn × List En) (e:Ending) (w':World):Prop :=
 ∃ (i0 i1 i2 i3 i4:UInt64) (i5:UInt32) (A6:Option Addr) (n6 c6:Nat) (A:Option Addr) (k:Nat) (out:List El),e = .returned (.tuple #[.agg #[.int .u64 (i0.toNat:Int),.int .u64 (i1.toNat:Int),.int .u64 (i2.toNat:Int),.int .u64 (i3.toNat:Int),.int .u64 (i4.toNat:Int),.int .u32 (i5.toNat:Int),.slice A6 n6 c6],.slice A out.length k,.int .i64 (r.1:Int)]) ∧ Below w.heap.size w w' ∧
  (r.1 = 0 → ∃ mA mc,(#[.int .u64 (i0.toNat:Int),.int .u64 (i1.toNat:Int),.int .u64 (i2.toNat:Int),.int .u64 (i3.toNat:Int),.int .u64 (i4.toNat:Int),.int .u32 (i5.toNat:Int),.slice A6 n6 c6]:Array Value) = #[.int .u64 (r.2.1.id.toNat:Int),.int .u64 (r.2.1.par.toNat:Int),.int .u64 (r.2.1.seq.toNat:Int),.int .u64 (r.2.1.off.toNat:Int),.int .u64 (r.2.1.tim.toNat:Int),.int .u32 (r.2.1.sch.toNat:Int),.slice mA r.2.1.ms.length mc] ∧ w'.ownsRow w.heap.size 9 1 (.slice mA r.2.1.ms.length mc) r.2.1.ms.length (strsV r.2.1.ms) ∧ EnQ w' Q A k out ∧ out.map El.p = r.2.2)
/-- entries that were given a sequence number -/
def elSq (q:UInt64) (x:El):El := { x with p:=setSeq q x.p }
def halfE (q:UInt64) (k:Nat) (l:List El):List El:=(l.take k).map (elSq q) ++ l.drop k
def as1 (nw:Sn) (d:Dr) (l:List El):List El:=if d.rew = true then l else l.map (elSq (nw.seq + 1))
theorem as1_len (nw:Sn) (d:Dr) (l:List El):(as1 nw d l).length = l.length:=by
 unfold as1
 split <;> simp
theorem as1_p {nw:Sn} {d:Dr} {l:List El} (h:l.map El.p = d.adds):(as1 nw d l).map El.p = adds1 nw d:=by
 unfold as1 adds1
 split
 ·exact h
 ·rw [← h,List.map_map,List.map_map]
  rfl
theorem half_len (q:UInt64) (k:Nat) (l:List El):(halfE q k l).length = l.length:=by
 unfold halfE
 rw [List.length_append,List.length_map,List.length_take,List.length_drop]
 omega
theorem half_get {q:UInt64} {k:Nat} {l:List El} (hk:k < l.length):(halfE q k l).getD k default = l.getD k default:=by
 unfold halfE
 have h1:((l.take k).map (elSq q)).length = k:=by rw [List.length_map,List.length_take];omega
 rw [List.getD_eq_getElem?_getD,List.getD_eq_getElem?_getD,List.getElem?_append_right (by omega),h1,Nat.sub_self,List.getElem?_drop,Nat.add_zero]
theorem half_set {q:UInt64} {k:Nat} {l:List El} (hk:k < l.length):(halfE q k l).set k (elSq q (l.getD k default)) = halfE q (k + 1) l:=by
 unfold halfE
 have h1:((l.take k).map (elSq q)).length = k:=by rw [List.length_map,List.length_take];omega
 rw [List.set_append_right _ _ (by omega),h1,Nat.sub_self,List.drop_eq_getElem_cons hk,zB0,List.take_add_one,List.getElem?_eq_getElem hk,List.map_append,List.append_assoc]
 rw [List.getD_eq_getElem?_getD,List.getElem?_eq_getElem hk]
 rfl
theorem half_all {q:UInt64} {l:List El}:halfE q l.length l = l.map (elSq q):=by
 unfold halfE
 simp
theorem els_seq (q:UInt64):∀ (l:List El) (k:Nat),k < l.length → (elsV l).set (k * 6 + 2) (.int .u64 (q.toNat:Int)) = elsV (l.set k (elSq q (l.getD k default)))
 | a :: l,0,_ => by
   rw [zB0,elsV_cons,elsV_cons]
   simp [elV,elSq,setSeq]
 | a :: l,k + 1,h => by
   have ih:=els_seq q l k (by simpa using h)
   have e:(k + 1) * 6 + 2 = (k * 6 + 2) + 1 + 1 + 1 + 1 + 1 + 1:=by omega
   have e2:(a :: l).getD (k + 1) default = l.getD k default:=by simp [List.getD_eq_getElem?_getD]
   rw [zC0,e2,elsV_cons,elsV_cons, ← ih,e]
   simp [elV]
/-- the state of a draft under way -/
structure DrS (w W:World) (d:Dr) (nw:Sn) (id1 sq of_ tm:UInt64) (sh:UInt32) (b4 b6 b9 b11:Nat) (fA:Option Addr) (fc:Nat) (aA:Option Addr) (na ac:Nat) (dA:Option Addr) (dc:Nat) (mA:Option Addr) (mc:Nat) (gA:Option Addr) (gc:Nat) (l:List El):Prop where
 yd:BoxN W b4 [.bool d.rew,.slice fA d.fs.length fc,.slice aA na ac,.slice dA d.drops.length dc,.int .u64 (d.off.toNat:Int),.int .u64 (d.tim.toNat:Int)]
 y6:BoxN W b6 [.int .u64 0,.int .u64 0,.int .u64 0,.int .u64 0,.int .u64 0,.int .u32 0,.slice none 0 0]
 y9:BoxN W b9 [.int .u64 (nw.id.toNat:Int),.int .u64 (nw.par.toNat:Int),.int .u64 (nw.seq.toNat:Int),.int .u64 (nw.off.toNat:Int),.int .u64 (nw.tim.toNat:Int),.int .u32 (nw.sch.toNat:Int),.slice mA nw.ms.length mc]
 y11:BoxN W b11 [.int .u64 (id1.toNat:Int),.int .u64 (nw.id.toNat:Int),.int .u64 (sq.toNat:Int),.int .u64 (of_.toNat:Int),.int .u64 (tm.toNat:Int),.int .u32 (sh.toNat:Int),.slice none 0 0]
 ads:W.ownsRow w.heap.size 97 6 (.slice gA l.length gc) l.length (elsV l)
 mo:W.ownsRow w.heap.size 9 1 (.slice mA nw.ms.length mc) nw.ms.length (strsV nw.ms)
 b:Below w.heap.size w W
section
variable {w W W':World} {d:Dr} {nw:Sn} {id1 sq of_ tm:UInt64} {sh:UInt32} {b4 b6 b9 b11 fc na ac dc mc gc:Nat} {fA aA dA mA gA:Option Addr} {l:List El}
theorem DrS.keep (h:DrS w W d nw id1 sq of_ tm sh b4 b6 b9 b11 fA fc aA na ac dA dc mA mc gA gc l) (hb:Below W.heap.size W W'):DrS w W' d nw id1 sq of_ tm sh b4 b6 b9 b11 fA fc aA na ac dA dc mA mc gA gc l :=
 ⟨h.yd.keep hb h.yd.z,h.y6.keep hb h.y6.z,h.y9.keep hb h.y9.z,h.y11.keep hb h.y11.z,own_below h.ads hb,own_below h.mo hb,below_call h.b h.b.size hb⟩
theorem DrS.early (h:DrS w W d nw id1 sq of_ tm sh b4 b6 b9 b11 fA fc aA na ac dA dc mA mc gA gc l) (h6:w.heap.size ≤ b6) {Q:Nat → Prop} {r:Nat × Sn × List En} {er:Nat} (hr:r.1 = er) (h0:er ≠ 0) {i0 i1 i2 i3 i4:UInt64} {i5:UInt32} {A6:Option Addr} {n6 c6:Nat} :
 DrEnd w Q r (.returned (.tuple #[.agg #[.int .u64 (i0.toNat:Int),.int .u64 (i1.toNat:Int),.int .u64 (i2.toNat:Int),.int .u64 (i3.toNat:Int),.int .u64 (i4.toNat:Int),.int .u32 (i5.toNat:Int),.slice A6 n6 c6],.slice none 0 0,.int .i64 (er:Int)])) (Proofs.YtpfofefecamkfaaGreatDoor.set7b W b6 (.int .u64 (i0.toNat:Int)) (.int .u64 (i1.toNat:Int)) (.int .u64 (i2.toNat:Int)) (.int .u64 (i3.toNat:Int)) (.int .u64 (i4.toNat:Int)) (.int .u32 (i5.toNat:Int)) (.slice A6 n6 c6)) :=
 ⟨_,_,_,_,_,_,_,_,_,none,0,[],by rw [hr];rfl,below_set7b h.b h6,fun q => absurd q (by rw [hr];exact h0)⟩
end
/-- where the draft's blocks lie -/
structure DrN (b4 b6 b9 b11:Nat) (gA:Option Addr) (n gc:Nat) (mA:Option Addr) (m mc:Nat):Prop where
 l46:b4 < b6
 l69:b6 < b9
 l911:b9 < b11
 ads:∀ g,(Value.slice gA n gc).ownBlock = some g → b11 < g
 mo:∀ g,(Value.slice mA m mc).ownBlock = some g → b6 < g ∧ g < b9
section
variable {w W W':World} {d:Dr} {nw:Sn} {id1 sq of_ tm s0 o0:UInt64} {sh:UInt32} {b4 b6 b9 b11 fc na ac dc mc gc:Nat} {fA aA dA mA gA:Option Addr} {l l2:List El}
theorem DrS.move11 (h:DrS w W d nw id1 s0 o0 tm sh b4 b6 b9 b11 fA fc aA na ac dA dc mA mc gA gc l) (hn:DrN b4 b6 b9 b11 gA l.length gc mA nw.ms.length mc) (h0:w.heap.size ≤ b6) (o:Oth b11 W W') (hy:BoxN W' b11 [.int .u64 (id1.toNat:Int),.int .u64 (nw.id.toNat:Int),.int .u64 (sq.toNat:Int),.int .u64 (of_.toNat:Int),.int .u64 (tm.toNat:Int),.int .u32 (sh.toNat:Int),.slice none 0 0]):DrS w W' d nw id1 sq of_ tm sh b4 b6 b9 b11 fA fc aA na ac dA dc mA mc gA gc l:=by
 have a1:=hn.l46
 have a2:=hn.l69
 have a3:=hn.l911
 refine ⟨h.yd.oth o (by omega),h.y6.oth o (by omega),h.y9.oth o (by omega),hy,own_keep h.ads fun g hg hl => o.block g hl (by have:=hn.ads g hg;omega),own_keep h.mo fun g hg hl => o.block g hl (by have:=hn.mo g hg;omega),h.b.trans (o.belowB (by omega) h.b.size)⟩
theorem DrS.two (h:DrS w W d nw id1 s0 o0 tm sh b4 b6 b9 b11 fA fc aA na ac dA dc mA mc gA gc l) (hn:DrN b4 b6 b9 b11 gA l.length gc mA nw.ms.length mc) (h0:w.heap.size ≤ b6):DrS w ((W.setCell ⟨b11,2,none⟩ (.int .u64 (sq.toNat:Int))).setCell ⟨b11,3,none⟩ (.int .u64 (of_.toNat:Int))) d nw id1 sq of_ tm sh b4 b6 b9 b11 fA fc aA na ac dA dc mA mc gA gc l :=
 h.move11 hn h0 (((Oth.refl b11 W).set 2 _).set 3 _) ((h.y11.set (j:=2) (.int .u64 (sq.toNat:Int)) rfl).set (j:=3) (.int .u64 (of_.toNat:Int)) rfl)
theorem DrS.drew (h:DrS w W d nw id1 sq of_ tm sh b4 b6 b9 b11 fA fc aA na ac dA dc mA mc gA gc l):DrS w W.drew d nw id1 sq of_ tm sh b4 b6 b9 b11 fA fc aA na ac dA dc mA mc gA gc l:=h.keep ((Below.refl _ _).drew)
theorem DrS.moveG (h:DrS w W d nw id1 sq of_ tm sh b4 b6 b9 b11 fA fc aA na ac dA dc mA mc gA gc l) (hn:DrN b4 b6 b9 b11 gA l.length gc mA nw.ms.length mc) (h0:w.heap.size ≤ b6) {g:Nat} (hg:b11 < g) (o:Oth g W W') (ho:W'.ownsRow w.heap.size 97 6 (.slice gA l2.length gc) l2.length (elsV l2)):DrS w W' d nw id1 sq of_ tm sh b4 b6 b9 b11 fA fc aA na ac dA dc mA mc gA gc l2:=by
 have a1:=hn.l46
 have a2:=hn.l69
 have a3:=hn.l911
 refine ⟨h.yd.oth o (by omega),h.y6.oth o (by omega),h.y9.oth o (by omega),h.y11.oth o (by omega),ho,own_keep h.mo fun g hg hl => o.block g hl (by have:=hn.mo g hg;omega),h.b.trans (o.belowB (by omega) h.b.size)⟩
theorem DrS.few {Q:Nat → Prop} {r:Nat × Sn × List En} {sn:Sn} {es:List En} (h:DrS w W d nw id1 sq of_ tm sh b4 b6 b9 b11 fA fc aA na ac dA dc mA mc gA gc l) (hn:DrN b4 b6 b9 b11 gA l.length gc mA nw.ms.length mc) (h0:w.heap.size ≤ b6) (hQ:∀ k,w.heap.size ≤ k → Q k) (ins:∀ x ∈ l,RdQ w Q 10 x.A x.p.stats.length x.c (stsV x.p.stats))
 (hr:r = (0,sn,es)) (he:l.map El.p = es) (h1:sn.id = id1) (h2:sn.par = nw.id) (h3:sn.seq = sq) (h4:sn.off = of_) (h5:sn.tim = tm) (h6:sn.sch = sh) (h7:sn.ms = nw.ms) :
 DrEnd w Q r (.returned (.tuple #[.agg #[.int .u64 (id1.toNat:Int),.int .u64 (nw.id.toNat:Int),.int .u64 (sq.toNat:Int),.int .u64 (of_.toNat:Int),.int .u64 (tm.toNat:Int),.int .u32 (sh.toNat:Int),.slice mA nw.ms.length mc],.slice gA l.length gc,.int .i64 0])) (Proofs.YtpfofefecamkfaaGreatDoor.set7b (W.setCell ⟨b11,6,none⟩ (.slice mA nw.ms.length mc)) b6 (.int .u64 (id1.toNat:Int)) (.int .u64 (nw.id.toNat:Int)) (.int .u64 (sq.toNat:Int)) (.int .u64 (of_.toNat:Int)) (.int .u64 (tm.toNat:Int)) (.int .u32 (sh.toNat:Int)) (.slice mA nw.ms.length mc)):=by
 have a1:=hn.l46
 have a2:=hn.l69
 have a3:=hn.l911
 have o1:=(Oth.refl b11 W).set 6 (.slice mA nw.ms.length mc)
 have o2:=oth_set7b (W.setCell ⟨b11,6,none⟩ (.slice mA nw.ms.length mc)) b6 (.int .u64 (id1.toNat:Int)) (.int .u64 (nw.id.toNat:Int)) (.int .u64 (sq.toNat:Int)) (.int .u64 (of_.toNat:Int)) (.int .u64 (tm.toNat:Int)) (.int .u32 (sh.toNat:Int)) (.slice mA nw.ms.length mc)
 have hb:Below w.heap.size w (Proofs.YtpfofefecamkfaaGreatDoor.set7b (W.setCell ⟨b11,6,none⟩ (.slice mA nw.ms.length mc)) b6 (.int .u64 (id1.toNat:Int)) (.int .u64 (nw.id.toNat:Int)) (.int .u64 (sq.toNat:Int)) (.int .u64 (of_.toNat:Int)) (.int .u64 (tm.toNat:Int)) (.int .u32 (sh.toNat:Int)) (.slice mA nw.ms.length mc)):=(h.b.trans (o1.belowB (by omega) h.b.size)).trans (o2.belowB (by omega) (by have:=h.b.size;have:=o1.size;omega))
 subst hr
 refine ⟨id1,nw.id,sq,of_,tm,sh,mA,nw.ms.length,mc,gA,gc,l,rfl,hb,fun _ => ⟨mA,mc,?_,?_,⟨?_,?_⟩,he⟩⟩
 ·show _ = (#[.int .u64 (sn.id.toNat:Int),.int .u64 (sn.par.toNat:Int),.int .u64 (sn.seq.toNat:Int),.int .u64 (sn.off.toNat:Int),.int .u64 (sn.tim.toNat:Int),.int .u32 (sn.sch.toNat:Int),.slice mA sn.ms.length mc]:Array Value)
  rw [h1,h2,h3,h4,h5,h6,h7]
 ·show World.ownsRow _ w.heap.size _ 1 (.slice mA sn.ms.length mc) sn.ms.length (strsV sn.ms)
  rw [h7]
  refine own_keep (own_keep h.mo fun g hg hl => o1.block g hl (by have:=hn.mo g hg;omega)) fun g hg hl => o2.block g hl (by have:=hn.mo g hg;omega)
 ·exact .own (own_keep (own_keep h.ads fun g hg hl => o1.block g hl (by have:=hn.ads g hg;omega)) fun g hg hl => o2.block g hl (by have:=hn.ads g hg;omega)) fun k hk _ => hQ k hk
 ·exact fun x hx => (ins x hx).low hb
theorem DrS.all {Q:Nat → Prop} {r:Nat × Sn × List En} {sn:Sn} {es:List En} {A:Option Addr} {k B:Nat} (h:DrS w W d nw id1 sq of_ tm sh b4 b6 b9 b11 fA fc aA na ac dA dc mA mc gA gc l) (h0:w.heap.size ≤ b6) (hQ:∀ k,w.heap.size ≤ k → Q k) (_hB:w.heap.size ≤ B) (h6B:b6 < B)
 (own:W.ownsRow B 97 6 (.slice A l2.length k) l2.length (elsV l2)) (ins:∀ x ∈ l2,RdQ W (fun k => Q k ∧ k ≠ b6) 10 x.A x.p.stats.length x.c (stsV x.p.stats))
 (hr:r = (0,sn,es)) (he:l2.map El.p = es) (h1:sn.id = id1) (h2:sn.par = nw.id) (h3:sn.seq = sq) (h4:sn.off = of_) (h5:sn.tim = tm) (h6:sn.sch = sh) (h7:sn.ms = []) :
 DrEnd w Q r (.returned (.tuple #[.agg #[.int .u64 (id1.toNat:Int),.int .u64 (nw.id.toNat:Int),.int .u64 (sq.toNat:Int),.int .u64 (of_.toNat:Int),.int .u64 (tm.toNat:Int),.int .u32 (sh.toNat:Int),.slice none 0 0],.slice A l2.length k,.int .i64 0])) (Proofs.YtpfofefecamkfaaGreatDoor.set7b W b6 (.int .u64 (id1.toNat:Int)) (.int .u64 (nw.id.toNat:Int)) (.int .u64 (sq.toNat:Int)) (.int .u64 (of_.toNat:Int)) (.int .u64 (tm.toNat:Int)) (.int .u32 (sh.toNat:Int)) (.slice none 0 0)):=by
 have o2:=oth_set7b W b6 (.int .u64 (id1.toNat:Int)) (.int .u64 (nw.id.toNat:Int)) (.int .u64 (sq.toNat:Int)) (.int .u64 (of_.toNat:Int)) (.int .u64 (tm.toNat:Int)) (.int .u32 (sh.toNat:Int)) (.slice none 0 0)
 have hb:Below w.heap.size w (Proofs.YtpfofefecamkfaaGreatDoor.set7b W b6 (.int .u64 (id1.toNat:Int)) (.int .u64 (nw.id.toNat:Int)) (.int .u64 (sq.toNat:Int)) (.int .u64 (of_.toNat:Int)) (.int .u64 (tm.toNat:Int)) (.int .u32 (sh.toNat:Int)) (.slice none 0 0)):=h.b.trans (o2.belowB (by omega) h.b.size)
 subst hr
 refine ⟨id1,nw.id,sq,of_,tm,sh,none,0,0,A,k,l2,rfl,hb,fun _ => ⟨none,0,?_,?_,⟨?_,?_⟩,he⟩⟩
 ·show _ = (#[.int .u64 (sn.id.toNat:Int),.int .u64 (sn.par.toNat:Int),.int .u64 (sn.seq.toNat:Int),.int .u64 (sn.off.toNat:Int),.int .u64 (sn.tim.toNat:Int),.int .u32 (sn.sch.toNat:Int),.slice none sn.ms.length 0]:Array Value)
  rw [h1,h2,h3,h4,h5,h6,h7]
  rfl
 ·show World.ownsRow _ w.heap.size _ 1 (.slice none sn.ms.length 0) sn.ms.length (strsV sn.ms)
  rw [h7]
  exact World.ownsRow_nil _ _ _ _
 ·exact .own (own_keep own fun g hg hl => o2.block g hl (by have:=(own.lt g hg).1;omega)) fun k hk _ => hQ k (by omega)
 ·exact fun x hx => ((ins x hx).keep o2.size fun p hp hl => o2.cell hl hp.2).imp fun k hk _ => hk.1
end
theorem OwnE.any {w:World} {B c:Nat} {A:Option Addr} {l:List El} (h:OwnE w B A c l):(A = none ∧ c = 0 ∧ l = []) ∨ ∃ g,A = some ⟨g,0,none⟩ ∧ B ≤ g ∧ g < w.heap.size:=by
 rcases h.own.2 with ⟨q,hx⟩ | ⟨g,cap,cur,q,hb,hc,_⟩
 ·left
  injection q with q1 q2 q3
  exact ⟨q1,q3,List.length_eq_zero_iff.1 q2⟩
 ·right
  injection q with q1 q2 q3
  exact ⟨g,q1,hb,(Array.getElem?_eq_some_iff.1 hc).1⟩
theorem deleteAny (w:World) (B c:Nat) (A:Option Addr) (l:List El) (ho:OwnE w B A c l) (hB:B ≤ w.heap.size) (hmax:l.length ≤ 1000000) (fn:Nat) (lb:Array Value) (p:El → Bool)
 (eg:∀ args w,(callFunc fn args).run Tryz.prog w = .ok (.enter fn args) w) (hp:∀ g,B ≤ g → PredOEl w g fn lb p) :
 Calls Tryz.prog 98 #[.slice A l.length c,.func (.func fn) #[] lb] w fun e w' => ∃ A2 c2,e = .returned (.slice A2 (l.filter fun f => !p f).length c2) ∧ OwnE w' B A2 c2 (l.filter fun f => !p f) ∧ ∃ g,B ≤ g ∧ Oth g w w':=by
 rcases ho.any with ⟨rfl,rfl,rfl⟩ | ⟨g,rfl,hg,hgl⟩
 ·refine (deleteEl0 w fn lb p eg (hp w.heap.size hB)).mono ?_
  rintro e w' ⟨rfl,hb⟩
  exact ⟨none,0,rfl,OwnE.nil _ _,w.heap.size,hB,Oth.of hb⟩
 ·refine (deleteEl w B g c l ho.own hmax fn lb p eg (hp g hg)).mono ?_
  rintro e w' ⟨l',rfl,rfl,ho',hoth⟩
  exact ⟨_,c,rfl,⟨ho',fun x hx => own_othT (ho.ins x (List.mem_filter.1 hx).1) ho.own hoth (by decide)⟩,g,hg,hoth⟩
theorem any_el {l:List El} {old:List En} (h:l.map El.p = old) (s:ByteArray):(l.any fun x => x.p.name.toList == s.toList) = hasEn old s:=by
 unfold hasEn
 rw [← h,List.any_map]
 rfl
theorem any_seq {l:List El} {es:List En} (h:l.map El.p = es) (q:UInt64):(l.any fun x => decide (q.toNat < x.p.seq.toNat)) = es.any fun x => decide (q.toNat < x.seq.toNat):=by
 rw [← h,List.any_map]
 rfl
theorem all_idx {l:List ByteArray} {p:ByteArray → Bool} (h:∀ j,j < l.length → p (l.getD j default) = true):l.all p = true:=by
 rw [List.all_eq_true]
 intro x hx
 obtain ⟨i,hi,rfl⟩:=List.mem_iff_getElem.1 hx
 have:=h i hi
 rwa [List.getD_eq_getElem?_getD,List.getElem?_eq_getElem hi] at this
theorem all_not {l:List ByteArray} {p:ByteArray → Bool} {x:ByteArray} (hx:x ∈ l) (h:p x = false):l.all p = false:=by
 rw [← Bool.not_eq_true,List.all_eq_true]
 intro q
 have:=q x hx
 rw [h] at this
 cases this
theorem filt_p {l:List El} {old:List En} (h:l.map El.p = old) (ds:List ByteArray):((l.filter fun x => !nmIn ds x.p.name).map El.p) = old.filter fun x => !nmIn ds x.name:=by
 rw [← h,List.filter_map]
 rfl
theorem elsV_app (a b:List El):elsV (a ++ b) = elsV a ++ elsV b:=by simp [elsV]
theorem as1_ins {w:World} {Q:Nat → Prop} {nw:Sn} {d:Dr} {l:List El} (h:∀ x ∈ l,RdQ w Q 10 x.A x.p.stats.length x.c (stsV x.p.stats)):∀ x ∈ as1 nw d l,RdQ w Q 10 x.A x.p.stats.length x.c (stsV x.p.stats):=by
 unfold as1
 split
 ·exact h
 ·intro x hx
  obtain ⟨y,hy,rfl⟩:=List.mem_map.1 hx
  exact h y hy
theorem all1_len {nw:Sn} {d:Dr} {old:List En} {out al:List El} (h:out.map El.p = old) (h2:al.map El.p = d.adds):(all1 nw d old).length = (out.filter fun x => !nmIn d.drops x.p.name).length + al.length:=by
 have h3:=congrArg List.length (filt_p h d.drops)
 have h4:=congrArg List.length (as1_p (nw:=nw) h2)
 rw [List.length_map] at h3 h4
 rw [as1_len] at h4
 unfold all1
 rw [List.length_append, ← h3, ← h4]
end Go.Proofs.YtpfofefecamkfaaGreatDoor
