/- THE WALKS of the catalog's begin and Open. No statement of the seat is proved here; no condition but sizes. -/
import Derived.Test.YtpfofefecamkfaaGreatDoorCtK
import Derived.Deep.RegionHeld3
namespace Go.Proofs.YtpfofefecamkfaaGreatDoor
open Go.RowKit

/-- a block more that is written -/
def Ma (M:Nat → Prop) (b:Nat) (k:Nat):Prop:=M k ∨ k = b
theorem Env.add {M:Nat → Prop} {w w':World} {sb mb K:Nat} {s:So} (h:Env M w sb mb K s) (hb:Below w.heap.size w w') {b:Nat} (h1:w.heap.size ≤ b) (h2:b < w'.heap.size):Env (Ma M b) w' sb mb K s:=by
 obtain ⟨N,hN,hS⟩:=h.st
 have hz:=h.tb.z
 have l1:=h.lt sb h.m1
 have l2:=h.lt mb h.m2
 exact ⟨⟨N,hN,(hS.imp (Q:=fun k => ¬ Ma M b k) (fun k hk hl q => q.elim hk fun e => by omega) (fun q => q (.inl h.m1)) (fun q => q (.inl h.m2))).keep hb⟩,.inl h.m1,.inl h.m2,fun k hk => hk.elim (fun q => Nat.lt_of_lt_of_le (h.lt k q) hb.size) fun e => by omega,fun k hk => hk.elim (h.g9 k) fun e => by omega,h.tb.low hb,h.fit⟩
theorem Env.less {M:Nat → Prop} {w:World} {sb mb K b:Nat} {s:So} (h:Env (Ma M b) w sb mb K s) (h1:M sb) (h2:M mb):Env M w sb mb K s:=by
 obtain ⟨N,hN,hS⟩:=h.st
 exact ⟨⟨N,hN,hS.imp (Q:=fun k => ¬ M k) (fun k hk _ q => hk (.inl q)) (fun q => q h1) (fun q => q h2)⟩,h1,h2,fun k hk => h.lt k (.inl hk),fun k hk => h.g9 k (.inl hk),h.tb,h.fit⟩
theorem CatR.add {M:Nat → Prop} {w w':World} {sb cb:Nat} {c:Ct} (h:CatR w (fun k => ¬ M k) cb sb c) (hb:Below w.heap.size w w') {b:Nat} (h1:w.heap.size ≤ b):CatR w' (fun k => ¬ Ma M b k) cb sb c :=
 (h.imp fun k hk hl q => q.elim hk fun e => by omega).low hb
theorem RdQ.add {M:Nat → Prop} {w w':World} {sz n c:Nat} {A:Option Addr} {xs:List Value} (h:RdQ w (fun k => ¬ M k) sz A n c xs) (hb:Below w.heap.size w w') {b:Nat} (h1:w.heap.size ≤ b):RdQ w' (fun k => ¬ Ma M b k) sz A n c xs :=
 (h.imp fun k hk hl q => q.elim hk fun e => by omega).low hb
/-- what beginning leaves -/
def BgEnd (M:Nat → Prop) (w:World) (sb mb cb K:Nat) (r:So × Ct × Nat) (e:Ending) (w':World):Prop :=
 e = .returned (.int .i64 (r.2.2:Int)) ∧ Env M w' sb mb K r.1 ∧ CatR w' (fun k => ¬ M k) cb sb r.2.1 ∧ Mst (Mc sb mb cb) w w'
/-- what opening leaves -/
def OpnEnd (M:Nat → Prop) (w:World) (sb mb K:Nat) (r:So × Option Ct × Nat) (e:Ending) (w':World):Prop :=
 match r.2.1 with
 | none => e = .returned (.tuple #[.pointer none,.int .i64 (r.2.2:Int)]) ∧ Env M w' sb mb K r.1 ∧ Mst (Ms sb mb) w w'
 | some c => ∃ cb,e = .returned (.tuple #[.pointer (some ⟨cb,0,none⟩),.int .i64 (r.2.2:Int)]) ∧ w.heap.size ≤ cb ∧ cb < w'.heap.size ∧ Env (Ma M cb) w' sb mb K r.1 ∧ CatR w' (fun k => ¬ Ma M cb k) cb sb c ∧ Mst (Ms sb mb) w w'
theorem oth_set3b (w:World) (b:Nat) (v0 v1 v2:Value):Oth b w (set3b w b v0 v1 v2):=(((Oth.refl b w).set 0 v0).set 1 v1).set 2 v2
theorem s_keep {w6:World} {b3 b5 j:Nat} {v a b c:Value} {o:Obj} (h:w6.cell? ⟨b3,j,none⟩ = some v) (hne:b3 ≠ b5) (hlt:b3 < w6.heap.size):((((w6.setCell ⟨b5,0,none⟩ a).setCell ⟨b5,1,none⟩ b).setCell ⟨b5,2,none⟩ c).alloc o).cell? ⟨b3,j,none⟩ = some v:=by
 have ho:=oth_set3b w6 b5 a b c
 have h1:=(ho.cell (p:=⟨b3,j,none⟩) hlt hne).trans h
 have hb:=(Below.refl (set3b w6 b5 a b c).heap.size (set3b w6 b5 a b c)).alloc (Nat.le_refl _) o
 exact (hb.cell (p:=⟨b3,j,none⟩) (Nat.lt_of_lt_of_le hlt ho.size)).trans h1
/-- what a beginning table's blocks are -/
def BegOk (M:Nat → Prop) (w1 wx:World) (b5 bS:Nat) (id:UInt32) (fs:List Fd) (vA:Option Addr) (vc:Nat):Prop :=
 w1.heap.size ≤ b5 ∧ BoxN wx b5 [.slice (some ⟨bS,0,none⟩) 1 1,.slice none 0 0,.int .u64 0] ∧ TabQ wx (fun k => ¬ M k) (some ⟨bS,0,none⟩) 1 [⟨id,fs,vA,vc⟩] none 0 [] ∧ Below w1.heap.size w1 wx
theorem rdq_one {W:World} {P:Nat → Prop} {bS:Nat} {id:UInt32} {fs:List Fd} {vA:Option Addr} {vc:Nat} (h:BoxN W bS [.int .u32 (id.toNat:Int),.slice vA fs.length vc]) (hP:P bS):RdQ W P 2 (some ⟨bS,0,none⟩) 1 1 (slsV [⟨id,fs,vA,vc⟩]) :=
 ⟨⟨rfl,Nat.le_refl _,by decide,fun _ => ⟨bS,0,rfl,h.z,fun j u hj => by rw [Nat.zero_add];exact h.cell j u hj⟩⟩,fun _ => ⟨bS,0,rfl,hP⟩⟩
theorem beg_ok {M:Nat → Prop} {w1 wx:World} {b5 bS:Nat} {id:UInt32} {fs:List Fd} {vA:Option Addr} {vc:Nat} (hM:∀ k,M k → k < w1.heap.size) (h5:w1.heap.size ≤ b5) (hS:w1.heap.size ≤ bS) (y5:BoxN wx b5 [.slice (some ⟨bS,0,none⟩) 1 1,.slice none 0 0,.int .u64 0]) (yS:BoxN wx bS [.int .u32 (id.toNat:Int),.slice vA fs.length vc])
 (ho:wx.ownsRow w1.heap.size 89 4 (.slice vA fs.length vc) fs.length (fdsV fs)) (hb:Below w1.heap.size w1 wx):BegOk M w1 wx b5 bS id fs vA vc :=
 ⟨h5,y5,⟨rdq_one yS (fun q => by have:=hM _ q;omega),fun s hs => by rw [List.mem_singleton.1 hs];exact .own ho fun k hk _ q => by have:=hM _ q;omega,.nil _ _ _,fun _ h => (List.not_mem_nil h).elim⟩,hb⟩
theorem beg1 {M:Nat → Prop} {w1 w6:World} {id:UInt32} {fs:List Fd} {vA:Option Addr} {vc:Nat} (hM:∀ k,M k → k < w1.heap.size) (ho:w6.ownsRow w1.heap.size 89 4 (.slice vA fs.length vc) fs.length (fdsV fs)) (hb:Below w1.heap.size w1 w6) :
 BegOk M w1 ((w6.alloc (.cells #[.int .u32 (id.toNat:Int),.slice vA fs.length vc] 33)).alloc (.cells #[.slice (some ⟨w6.heap.size,0,none⟩) 1 1,.slice none 0 0,.int .u64 0] 39)) (w6.heap.size + 1) w6.heap.size id fs vA vc:=by
 have yS:=boxN_new w6 #[.int .u32 (id.toNat:Int),.slice vA fs.length vc] 33
 have hA:=(Below.refl w6.heap.size w6).alloc (Nat.le_refl _) (.cells #[.int .u32 (id.toNat:Int),.slice vA fs.length vc] 33)
 have yT:=boxN_new (w6.alloc (.cells #[.int .u32 (id.toNat:Int),.slice vA fs.length vc] 33)) #[.slice (some ⟨w6.heap.size,0,none⟩) 1 1,.slice none 0 0,.int .u64 0] 39
 have hz:(w6.alloc (.cells #[.int .u32 (id.toNat:Int),.slice vA fs.length vc] 33)).heap.size = w6.heap.size + 1:=by simp
 have hB:=(Below.refl _ (w6.alloc (.cells #[.int .u32 (id.toNat:Int),.slice vA fs.length vc] 33))).alloc (Nat.le_refl _) (.cells #[.slice (some ⟨w6.heap.size,0,none⟩) 1 1,.slice none 0 0,.int .u64 0] 39)
 rw [hz] at yT
 have hs:=hb.size
 exact beg_ok hM (by omega) hs yT (yS.keep hB yS.z) (own_below (own_below ho hA) hB) (below_call (below_call hb hs hA) (by omega) hB)
theorem beg2 {M:Nat → Prop} {w1 w6:World} {id:UInt32} {fs:List Fd} {vA:Option Addr} {vc:Nat} (hM:∀ k,M k → k < w1.heap.size) (ho:w6.ownsRow w1.heap.size 89 4 (.slice vA fs.length vc) fs.length (fdsV fs)) (hb:Below w1.heap.size w1 w6) :
 BegOk M w1 ((w6.alloc (.cells #[.slice (some ⟨w6.heap.size + 1,0,none⟩) 1 1,.slice none 0 0,.int .u64 0] 39)).alloc (.cells #[.int .u32 (id.toNat:Int),.slice vA fs.length vc] 33)) w6.heap.size (w6.heap.size + 1) id fs vA vc:=by
 have yT:=boxN_new w6 #[.slice (some ⟨w6.heap.size + 1,0,none⟩) 1 1,.slice none 0 0,.int .u64 0] 39
 have hA:=(Below.refl w6.heap.size w6).alloc (Nat.le_refl _) (.cells #[.slice (some ⟨w6.heap.size + 1,0,none⟩) 1 1,.slice none 0 0,.int .u64 0] 39)
 have yS:=boxN_new (w6.alloc (.cells #[.slice (some ⟨w6.heap.size + 1,0,none⟩) 1 1,.slice none 0 0,.int .u64 0] 39)) #[.int .u32 (id.toNat:Int),.slice vA fs.length vc] 33
 have hz:(w6.alloc (.cells #[.slice (some ⟨w6.heap.size + 1,0,none⟩) 1 1,.slice none 0 0,.int .u64 0] 39)).heap.size = w6.heap.size + 1:=by simp
 have hB:=(Below.refl _ (w6.alloc (.cells #[.slice (some ⟨w6.heap.size + 1,0,none⟩) 1 1,.slice none 0 0,.int .u64 0] 39))).alloc (Nat.le_refl _) (.cells #[.int .u32 (id.toNat:Int),.slice vA fs.length vc] 33)
 rw [hz] at yS
 have hs:=hb.size
 exact beg_ok hM hs (by omega) (yT.keep hB yT.z) yS (own_below (own_below ho hA) hB) (below_call (below_call hb hs hA) (by omega) hB)
theorem beg3 {M:Nat → Prop} {w1 w6:World} {id:UInt32} {fs:List Fd} {vA:Option Addr} {vc:Nat} (hM:∀ k,M k → k < w1.heap.size) (ho:w6.ownsRow w1.heap.size 89 4 (.slice vA fs.length vc) fs.length (fdsV fs)) (hne:(Value.slice vA fs.length vc).ownBlock ≠ some w1.heap.size) (hb:Below w1.heap.size w1 w6) (y:BoxN w6 w1.heap.size [.slice none 0 0,.slice none 0 0,.int .u64 0]) :
 BegOk M w1 ((((w6.setCell ⟨w1.heap.size,0,none⟩ (.slice (some ⟨w6.heap.size,0,none⟩) 1 1)).setCell ⟨w1.heap.size,1,none⟩ (.slice none 0 0)).setCell ⟨w1.heap.size,2,none⟩ (.int .u64 0)).alloc (.cells #[.int .u32 (id.toNat:Int),.slice vA fs.length vc] 33)) w1.heap.size w6.heap.size id fs vA vc:=by
 have o:=oth_set3b w6 w1.heap.size (.slice (some ⟨w6.heap.size,0,none⟩) 1 1) (.slice none 0 0) (.int .u64 0)
 have y2:=y.set3b (v0:=.slice (some ⟨w6.heap.size,0,none⟩) 1 1) (v1:=.slice none 0 0) (v2:=.int .u64 0)
 have hz:(set3b w6 w1.heap.size (.slice (some ⟨w6.heap.size,0,none⟩) 1 1) (.slice none 0 0) (.int .u64 0)).heap.size = w6.heap.size:=by simp [set3b,World.setCell]
 have hB:=(Below.refl _ (set3b w6 w1.heap.size (.slice (some ⟨w6.heap.size,0,none⟩) 1 1) (.slice none 0 0) (.int .u64 0))).alloc (Nat.le_refl _) (.cells #[.int .u32 (id.toNat:Int),.slice vA fs.length vc] 33)
 have yS:=boxN_new (set3b w6 w1.heap.size (.slice (some ⟨w6.heap.size,0,none⟩) 1 1) (.slice none 0 0) (.int .u64 0)) #[.int .u32 (id.toNat:Int),.slice vA fs.length vc] 33
 rw [hz] at yS
 have hs:=hb.size
 exact beg_ok hM (Nat.le_refl _) hs (y2.keep hB y2.z) yS (own_below (own_keep ho fun g hg hl => o.block g hl fun q => hne (by rw [hg,q])) hB) (below_call (hb.trans (o.belowB (Nat.le_refl _) hs)) (by omega) hB)
theorem alloc_z (w:World) (o:Obj):w.heap.size < (w.alloc o).drew.heap.size:=by
 show _ < (w.heap.push o).size
 simp
set_option maxRecDepth 100000 in
set_option maxHeartbeats 4000000 in
theorem catBegin (M:Nat → Prop) (w:World) (sb mb cb K:Nat) (s:So) (h:Env M w sb mb K s) (hK:K ≤ 800000) (hc:CatR w (fun k => ¬ M k) cb sb noC) (hM:M cb) (h1:cb ≠ sb) (h2:cb ≠ mb) (id:UInt32) (fs:List Fd) (A:Option Addr) (k:Nat) (hr:RdQ w (fun k => ¬ M k) 4 A fs.length k (fdsV fs)) (hfl:fs.length ≤ 1000000) :
 Calls Tryz.prog 38 #[.pointer (some ⟨cb,0,none⟩),.agg #[.int .u32 (id.toNat:Int),.slice A fs.length k]] w (BgEnd M w sb mb cb (K + 2) (s.begin (id,fs))):=by
 have hb1:=(Below.refl w.heap.size w).alloc (Nat.le_refl _) (.cells #[.int .u32 (id.toNat:Int),.slice A fs.length k] 33)
 have y3:=boxN_new w #[.int .u32 (id.toNat:Int),.slice A fs.length k] 33
 have hE1:=h.low hb1
 have hC1:=hc.low hb1
 have hR1:=hr.low hb1
 have HW1:=hide hb1
 clear h hc hr hb1
 go_enter Tryz.func38,Tryz.ntmps38
 go_upto_region 1 with fail
 generalize w.alloc (.cells #[.int .u32 (id.toNat:Int),.slice A fs.length k] 33) = w1 at *
 generalize w.heap.size = b3 at y3 ⊢
 have s0:=y3.cell 0 _ rfl
 have s1:=y3.cell 1 _ rfl
 have HRD:Hid (∀ W,Below w1.heap.size w1 W → Rd W W.heap.size 4 A fs.length k (fdsV fs)):=hide fun W hb => (hR1.low hb).rd
 have HY3:=hide y3
 have hz3:=y3.z
 have HCL:Hid (∀ W,Below w1.heap.size w1 W → Calls Tryz.prog 84 #[.slice A fs.length k] W (fun e w' => ∃ vA vc,e = .returned (.slice vA fs.length vc) ∧ Hid (w'.ownsRow w1.heap.size 89 4 (.slice vA fs.length vc) fs.length (fdsV fs)) ∧ w'.cell? ⟨b3,0,none⟩ = some (.int .u32 (id.toNat:Int)) ∧ w'.cell? ⟨b3,1,none⟩ = some (.slice A fs.length k) ∧ Hid (Below w1.heap.size w1 w') ∧ Hid ((∀ g,(Value.slice vA fs.length vc).ownBlock = some g → W.heap.size ≤ g) ∧ Below W.heap.size W w') ∧ W.heap.size ≤ w'.heap.size ∧ (∀ b o,b < W.heap.size → w'.cell? ⟨b,o,none⟩ = W.cell? ⟨b,o,none⟩) ∧ (∀ b o,b < W.heap.size → w'.frozen? ⟨b,o,none⟩ = W.frozen? ⟨b,o,none⟩))):=hide fun W hW => by
  refine (cloneF W W.heap.size fs.length k A (fdsV fs) (HRD.out W hW) (fdsV_one _) (by omega) (Nat.le_refl _)).mono ?_
  rintro e w6 ⟨v6,rfl,hown6,hb6⟩
  obtain ⟨vA,vc,rfl⟩:=own_slice hown6
  have hb:=below_call hW hW.size hb6
  exact ⟨vA,vc,rfl,hide (own_base hown6 hW.size),(hb.cell (p:=⟨b3,0,none⟩) hz3).trans s0,(hb.cell (p:=⟨b3,1,none⟩) hz3).trans s1,hide hb,hide ⟨fun g hg => (hown6.lt g hg).1,hb6⟩,hb6.size,fun b o h => hb6.cell (p:=⟨b,o,none⟩) h,fun b o h => hb6.frozen (p:=⟨b,o,none⟩) h⟩
 have HE5:Hid (BoxN (w1.alloc (.cells #[.slice none 0 0,.slice none 0 0,.int .u64 0] 39)).drew w1.heap.size [.slice none 0 0,.slice none 0 0,.int .u64 0]):=hide ((boxN_new w1 #[.slice none 0 0,.slice none 0 0,.int .u64 0] 39).keep (B:=(w1.alloc (.cells #[.slice none 0 0,.slice none 0 0,.int .u64 0] 39)).heap.size) ((Below.refl _ _).drew) (by simp))
 have hn31:b3 ≠ w1.heap.size:=Nat.ne_of_lt hz3
 go_cut [5] from 9 to 49 (fun v5 wx => ∃ b5 sA sc,∃ ss:List Sl,v5 = .pointer (some ⟨b5,0,none⟩) ∧ Hid (w1.heap.size ≤ b5 ∧ BoxN wx b5 [.slice sA ss.length sc,.slice none 0 0,.int .u64 0] ∧ TabQ wx (fun k => ¬ M k) sA sc ss none 0 [] ∧ ss.map plS = [(id,fs)] ∧ Below w1.heap.size w1 wx))
 case first =>
  go_region_held3 (fun w' => w'.cell? ⟨b3,0,none⟩ = some (.int .u32 (id.toNat:Int)) ∧ w'.cell? ⟨b3,1,none⟩ = some (.slice A fs.length k)) (first | (with_reducible exact ⟨s0',s1'⟩) | (with_reducible exact ⟨s0,s1⟩) | (with_reducible exact ⟨s_keep s0' hn31 hl36,s_keep s1' hn31 hl36⟩) | go_keep)
   (first | (go_at_call 84;(with_reducible refine (HCL.out w1.drew ((Below.refl _ _).drew)).mono ?_);rintro e w6 ⟨vA,vc,rfl,hown6,s0',s1',hb6,hbX,hzz,hcc,hff⟩;clear hcc hff) | (go_at_call 84;(with_reducible refine (HCL.out (w1.alloc (.cells #[.slice none 0 0,.slice none 0 0,.int .u64 0] 39)).drew (((Below.refl _ _).alloc (Nat.le_refl _) _).drew)).mono ?_);rintro e w6 ⟨vA,vc,rfl,hown6,s0',s1',hb6,hbX,hzz,hcc,hff⟩;have q0:=(hcc _ _ (alloc_z _ _)).trans (HE5.out.cell 0 _ rfl);have q1:=(hcc _ _ (alloc_z _ _)).trans (HE5.out.cell 1 _ rfl);have q2:=(hcc _ _ (alloc_z _ _)).trans (HE5.out.cell 2 _ rfl);have p0:=(hff _ _ (alloc_z _ _)).trans (HE5.out.free 0 (by simp));have p1:=(hff _ _ (alloc_z _ _)).trans (HE5.out.free 1 (by simp));have p2:=(hff _ _ (alloc_z _ _)).trans (HE5.out.free 2 (by simp));have hzl:w1.heap.size < w6.heap.size:=(Nat.lt_of_lt_of_le (alloc_z _ _) hzz);have hzn:w1.heap.size ≠ w6.heap.size:=(Nat.ne_of_lt hzl);have hzm:¬ w6.heap.size = w1.heap.size:=(fun q => hzn q.symm);have hl36:b3 < w6.heap.size:=(Nat.lt_trans hz3 hzl);clear hcc hff hzz))
  ·go_wp2_with fail
   go_meet
   exact ⟨_,_,_,[⟨id,fs,vA,vc⟩],rfl,hide ⟨(beg1 (id:=id) hE1.lt hown6.out hb6.out).1,(beg1 (id:=id) hE1.lt hown6.out hb6.out).2.1,(beg1 (id:=id) hE1.lt hown6.out hb6.out).2.2.1,rfl,(beg1 (id:=id) hE1.lt hown6.out hb6.out).2.2.2⟩⟩
  ·go_wp2_with fail
   go_meet
   exact ⟨_,_,_,[⟨id,fs,vA,vc⟩],rfl,hide ⟨(beg2 (id:=id) hE1.lt hown6.out hb6.out).1,(beg2 (id:=id) hE1.lt hown6.out hb6.out).2.1,(beg2 (id:=id) hE1.lt hown6.out hb6.out).2.2.1,rfl,(beg2 (id:=id) hE1.lt hown6.out hb6.out).2.2.2⟩⟩
  ·go_wp2_with fail
   go_meet
   have hbg:=(beg3 (id:=id) hE1.lt hown6.out (fun q => Nat.lt_irrefl _ (Nat.lt_of_lt_of_le (alloc_z w1 _) (hbX.out.1 _ q))) hb6.out (HE5.out.keep hbX.out.2 (alloc_z w1 _)))
   exact ⟨_,_,_,[⟨id,fs,vA,vc⟩],rfl,hide ⟨hbg.1,hbg.2.1,hbg.2.2.1,rfl,hbg.2.2.2⟩⟩
 case rest =>
  obtain ⟨b5,sA,sc,ss,rfl,HF⟩:=hcut
  have HE2:=hide (hE1.low HF.out.2.2.2.2)
  have HC2:=hide (hC1.low HF.out.2.2.2.2)
  have hmw:=metaWrite wc sA sc ss none 0 [] 0 HF.out.2.2.1.tab HE2.out.tb.crc
  simp only [List.length_nil,Int.natCast_zero] at hmw
  have b0:=HF.out.2.1.cell 0 _ rfl
  have b1:=HF.out.2.1.cell 1 _ rfl
  have b2:=HF.out.2.1.cell 2 _ rfl
  have hE1':=hide hE1
  clear hE1 hC1 hR1
  go_wp2_with fail
  refine hmw.mono ?_
  clear hmw b0 b1 b2
  unfold WrEnd
  rw [HF.out.2.2.2.1,List.map_nil]
  rintro e w3 (⟨hr,v,rfl,hown,hb⟩ | ⟨hr,rfl,hb⟩)
  ·obtain ⟨xA,xc,rfl⟩:=own_slice hown
   have hE3:=HE2.out.low hb
   have hC3:=HC2.out.low hb
   have hcst:=catStage M w3 sb mb cb K s hE3 (by omega) hC3.c0 ⟨hC3.lt,h1,h2⟩ 116 xA xc (wrS [(id,fs)] []) (.own hown fun j hj _ q => by have:=HE2.out.lt j q;omega)
   have HC3:=hide hC3
   have HT3:=hide (HF.out.2.2.1.low hb)
   have HY3:=hide (HF.out.2.1.keep hb HF.out.2.1.z)
   have HN5:Hid (¬ M b5):=hide fun q => by have:=hE1'.out.lt b5 q;have:=HF.out.1;omega
   have HM3:=hide (Mst.of (M:=Mc sb mb cb) (below_call (below_call HW1.out HW1.out.size HF.out.2.2.2.2) (Nat.le_trans HW1.out.size HF.out.2.2.2.2.size) hb))
   have HR:=hide hr
   obtain ⟨st,hst⟩:∃ st,s.stage 116 (wrS [(id,fs)] []) = st:=⟨_,rfl⟩
   have HST:=hide hst
   rw [hst] at hcst
   clear hE3 hC3 hown hb hr hst
   go_wp2_with fail
   refine hcst.mono ?_
   clear hcst
   obtain ⟨s4,nm,e4⟩:=st
   rintro e w4 ⟨rfl,hE4,hm4⟩
   dsimp only at hE4 ⊢
   have hC4:=HC3.out.mst hm4 (fun k hk q => hk (q.elim (fun e => e ▸ hE4.m1) (fun e => e ▸ hE4.m2))) (fun q => q.elim h1 h2)
   obtain ⟨v1,v2,v3,hx4⟩:=hC4.cells
   have HM4:=hide hm4
   have HE4:=hide hE4
   have HC4:=hide hC4
   have k0:=hx4.cell 0 _ rfl
   clear hm4 hE4 hC4 hx4
   obtain ⟨q,hq⟩:∃ q,(if e4 = 0 then s4.swap no_ nm else (s4,e4)) = q:=⟨_,rfl⟩
   have HQ:=hide hq
   go_upto_if 32 with fail
   go_cut [7] from 33 to 49 (fun v7 wx => v7 = .int .i64 (q.2:Int) ∧ Hid (Env M wx sb mb (K + 2) q.1 ∧ Mst (Ms sb mb) w4 wx))
   case first =>
    by_cases h4:e4 = 0
    ·subst h4
     rw [if_pos rfl] at hq
     obtain ⟨N,hN,hS⟩:=HE4.out.st
     have hsw:=objSwap _ w4 sb mb N s4 hS no_ nm
     rw [hq] at hsw
     clear hS hq
     go_wp2_with fail
     refine hsw.mono ?_
     rintro e w5 ⟨rfl,hS5,O5⟩
     go_wp2_with fail
     go_meet
     exact ⟨rfl,hide ⟨HE4.out.on hS5 hN O5 (by rw [← HQ.out];exact fit_swap HE4.out.fit _ _),.ost O5⟩⟩
    ·rw [if_neg h4] at hq
     have t32:((e4:Int) == 0) = false:=by rw [beq_eq_false_iff_ne];omega
     have HQ2:=hide hq
     clear hq h4 k0
     go_wp2_with fail
     go_meet
     exact ⟨by rw [← HQ2.out],hide ⟨by rw [← HQ2.out];exact HE4.out,Mst.refl _ _⟩⟩
   case rest =>
    obtain ⟨rfl,hx⟩:=hcut
    have HBG:Hid (s.begin (id,fs) = s.begin2 (id,fs) (s4,nm,e4) q):=hide (by unfold So.begin;rw [if_neg (by rw [HR.out];simp),HST.out];show So.begin2 _ _ _ (if e4 = 0 then s4.swap no_ nm else (s4,e4)) = _;rw [hq])
    have hm5:Mst (Ms sb mb) w3 wc:=HM4.out.trans hx.out.2
    have hPM:∀ k,¬ M k → ¬ Ms sb mb k:=fun k hk q => hk (q.elim (fun e => e ▸ HE4.out.m1) (fun e => e ▸ HE4.out.m2))
    have hcM:¬ Ms sb mb cb:=fun q => q.elim h1 h2
    have y5c:=hm5.box HY3.out (hPM b5 HN5.out)
    have HT5:=hide (HT3.out.mst hm5 hPM)
    have HC5:=hide (HC4.out.mst hx.out.2 hPM hcM)
    have HM5:=hide (HM3.out.trans (Mst.toC (cb:=cb) hm5))
    clear hq k0 hm5 hPM hcM
    by_cases hq0:q.2 = 0
    ·have t40:((q.2:Int) == 0) = true:=by rw [hq0];rfl
     have HG:Hid (s.begin (id,fs) = (q.1,⟨tb1 (id,fs),nm⟩,0)):=hide (by rw [HBG.out];unfold So.begin2;rw [if_pos hq0])
     have HQ0:=hide hq0
     clear hq0
     obtain ⟨v1,v2,v3,hx5⟩:=HC5.out.cells
     have b0:=y5c.cell 0 _ rfl
     have b1:=y5c.cell 1 _ rfl
     have b2:=y5c.cell 2 _ rfl
     have d1:=hx5.cell 1 _ rfl
     have d2:=hx5.cell 2 _ rfl
     have d3:=hx5.cell 3 _ rfl
     have d4:=hx5.cell 4 _ rfl
     have f1:=hx5.free 1 (by simp)
     have f2:=hx5.free 2 (by simp)
     have f3:=hx5.free 3 (by simp)
     have f4:=hx5.free 4 (by simp)
     clear y5c hx5
     go_wp2_with fail
     go_ret
     rw [HG.out]
     have o:=oth_put wc cb (.slice sA ss.length sc) (.slice none 0 0) (.int .u64 0) (.string nm)
     have hp:=HC5.out.put (t:=tb1 (id,fs)) (nm:=nm) hM HT5.out HF.out.2.2.2.1 rfl
     exact ⟨by rw [HQ0.out];rfl,hx.out.1.oth o hM h1 h2,hp,HM5.out.trans (Mst.ofOth (M:=Mc sb mb cb) o (.inr (.inr rfl)))⟩
    ·have t40:((q.2:Int) == 0) = false:=by rw [beq_eq_false_iff_ne];omega
     have HG:Hid (s.begin (id,fs) = (q.1,noC,q.2)):=hide (by rw [HBG.out];unfold So.begin2;rw [if_neg hq0])
     clear hq0 y5c
     go_wp2_with fail
     go_ret
     rw [HG.out]
     exact ⟨rfl,hx.out.1,HC5.out,HM5.out⟩
  ·have HG:Hid (s.begin (id,fs) = (s,noC,1)):=hide (by unfold So.begin;rw [if_pos hr])
   have HB:=hide hb
   clear hr
   go_wp2_with fail
   go_ret
   rw [HG.out]
   exact ⟨rfl,(HE2.out.low HB.out).more (by omega),HC2.out.low HB.out,Mst.of (below_call (below_call HW1.out HW1.out.size HF.out.2.2.2.2) (Nat.le_trans HW1.out.size HF.out.2.2.2.2.size) HB.out)⟩
end Go.Proofs.YtpfofefecamkfaaGreatDoor
