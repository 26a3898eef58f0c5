/- THE WALK of the catalog's Commit. No statement of the seat is proved here; no condition but sizes. -/
import Derived.Test.YtpfofefecamkfaaGreatDoorCtCa
namespace Go.Proofs.YtpfofefecamkfaaGreatDoor
open Go.RowKit

/-- what a commit leaves -/
def CmEnd (M:Nat → Prop) (w:World) (sb mb cb K:Nat) (r:Tr) (e:Ending) (w':World):Prop :=
 ∃ v0 v1 v2 v3 v4 v5 v6,e = .returned (.tuple #[.agg #[v0,v1,v2,v3,v4,v5,v6],.int .i64 (r.e:Int)]) ∧ Env M w' sb mb K r.s ∧ CatR w' (fun k => ¬ M k) cb sb r.c ∧ r.c.t.ok ∧ Mst (Mc sb mb cb) w w' ∧
  (r.e ≠ 0 → (#[v0,v1,v2,v3,v4,v5,v6]:Array Value) = #[.int .u64 0,.int .u64 0,.int .u64 0,.int .u64 0,.int .u64 0,.int .u32 0,.slice none 0 0]) ∧ (r.e = 0 → ∃ mA mc,(#[v0,v1,v2,v3,v4,v5,v6]:Array Value) = #[.int .u64 (r.n.id.toNat:Int),.int .u64 (r.n.par.toNat:Int),.int .u64 (r.n.seq.toNat:Int),.int .u64 (r.n.off.toNat:Int),.int .u64 (r.n.tim.toNat:Int),.int .u32 (r.n.sch.toNat:Int),.slice mA r.n.ms.length mc] ∧ w'.ownsRow w.heap.size 9 1 (.slice mA r.n.ms.length mc) r.n.ms.length (strsV r.n.ms))
theorem enter41:∀ args w,(callFunc 41 args).run Tryz.prog w = .ok (.enter 41 args) w:=enters_of Tryz.func41 (by kernel_rfl) rfl
/-- more blocks that are written -/
def Mo (M N:Nat → Prop) (k:Nat):Prop:=M k ∨ N k
theorem Env.addS {M N:Nat → Prop} {w w':World} {sb mb K:Nat} {s:So} (h:Env M w sb mb K s) (hb:Below w.heap.size w w') (hN:∀ k,N k → w.heap.size ≤ k ∧ k < w'.heap.size):Env (Mo M N) w' sb mb K s:=by
 obtain ⟨K',hN',hS⟩:=h.st
 have hz:=h.tb.z
 have l1:=h.lt sb h.m1
 have l2:=h.lt mb h.m2
 exact ⟨⟨K',hN',(hS.imp (Q:=fun k => ¬ Mo M N k) (fun k hk hl q => q.elim hk fun e => by have:=(hN k e).1;omega) (fun q => q (.inl h.m1)) (fun q => q (.inl h.m2))).keep hb⟩,.inl h.m1,.inl h.m2,fun k hk => hk.elim (fun q => Nat.lt_of_lt_of_le (h.lt k q) hb.size) fun e => (hN k e).2,fun k hk => hk.elim (h.g9 k) fun e => by have:=(hN k e).1;omega,h.tb.low hb,h.fit⟩
theorem Env.lessS {M N:Nat → Prop} {w:World} {sb mb K:Nat} {s:So} (h:Env (Mo M N) w sb mb K s) (h1:M sb) (h2:M mb):Env M w sb mb K s:=by
 obtain ⟨K',hN,hS⟩:=h.st
 exact ⟨⟨K',hN,hS.imp (Q:=fun k => ¬ M k) (fun k hk _ q => hk (.inl q)) (fun q => q h1) (fun q => q h2)⟩,h1,h2,fun k hk => h.lt k (.inl hk),fun k hk => h.g9 k (.inl hk),h.tb,h.fit⟩
theorem CatR.addS {M N:Nat → Prop} {w w':World} {sb cb:Nat} {c:Ct} (h:CatR w (fun k => ¬ M k) cb sb c) (hb:Below w.heap.size w w') (hN:∀ k,N k → w.heap.size ≤ k):CatR w' (fun k => ¬ Mo M N k) cb sb c :=
 (h.imp fun k hk hl q => q.elim hk fun e => by have:=hN k e;omega).low hb
theorem DrQ.addS {M N:Nat → Prop} {w w':World} {d:Dr} {fA aA dA:Option Addr} {fc ac dc:Nat} {al:List El} (h:DrQ w (fun k => ¬ M k) d fA fc aA ac al dA dc) (hb:Below w.heap.size w w') (hN:∀ k,N k → w.heap.size ≤ k):DrQ w' (fun k => ¬ Mo M N k) d fA fc aA ac al dA dc :=
 (h.imp fun k hk hl q => q.elim hk fun e => by have:=hN k e;omega).low hb
theorem BoxN.al {w:World} {b:Nat} {cs:List Value} (h:BoxN w b cs) (o:Obj):BoxN (w.alloc o) b cs:=h.keep ((Below.refl w.heap.size w).alloc (Nat.le_refl _) o) h.z
theorem BoxN.at_ {w:World} {b b2:Nat} {cs:List Value} (h:BoxN w b cs) (e:b = b2):BoxN w b2 cs:=e ▸ h
theorem below_two {w w1 w2:World} (h:Below w.heap.size w w1) (k:Below w1.heap.size w1 w2):Below w.heap.size w w2:=below_call h h.size k
theorem com_ms {d:Dr} {s:So} {t:Tb} (h:t.ok):(chCommit d s t).n.ms.length ≤ 9:=by
 unfold chCommit
 split
 ·exact Nat.zero_le _
 have hd:=draft_ms (s:=s) (d:=d) (sh:=(wider t d.fs).1.lastS.1) h
 generalize s.draft t d (wider t d.fs).1.lastS.1 = g at *
 unfold chCommit2
 split
 ·exact Nat.zero_le _
 split
 ·exact Nat.zero_le _
 unfold chCommit3
 split
 ·exact Nat.zero_le _
 split
 ·exact Nat.zero_le _
 ·show (g.2.1.ms ++ _).length ≤ 9
  rw [List.length_append,List.length_singleton]
  omega
theorem try3_ms {c:Ct} {h:Ch} {q:So × Nat} {nm:ByteArray} (hn:h.n.ms.length ≤ 9):(try3 c h q nm).n.ms.length ≤ 9:=by
 unfold try3
 split
 ·exact hn
 split
 ·exact hn
 split
 ·exact hn
 ·exact hn
theorem try_ms {c:Ct} {h:Ch} (hn:h.n.ms.length ≤ 9):(try1 c h).n.ms.length ≤ 9:=by
 unfold try1
 split
 ·exact Nat.zero_le _
 split
 ·exact Nat.zero_le _
 exact try3_ms hn
theorem try3_ok {c:Ct} {h:Ch} {q:So × Nat} {nm:ByteArray} (hc:c.t.ok) (hon:(try3 c h q nm).on = true):(try3 c h q nm).c.t.ok:=by
 unfold try3 at hon ⊢
 split
 ·rename_i h3
  rw [if_pos h3] at hon
  cases hon
 split
 ·exact hc
 split
 ·exact hc
 ·exact refresh_ok hc
theorem try_on {c:Ct} {h:Ch} (hc:c.t.ok) (hon:(try1 c h).on = true):(try1 c h).c.t.ok:=by
 unfold try1 at hon ⊢
 split
 ·exact hc
 rename_i h1
 rw [if_neg h1] at hon
 split
 ·exact hc
 rename_i h2
 rw [if_neg h2] at hon
 exact try3_ok hc hon
theorem pub_ms {d:Dr}:∀ (k:Nat) (s:So) (c:Ct),c.t.ok → (publish (chCommit d) k s c).n.ms.length ≤ 9
 | 0,_,_,_ => Nat.zero_le _
 | k + 1,s,c,h => by
   cases ho:(try1 c (chCommit d s c.t)).on with
   | true => rw [pub_on ho];exact pub_ms k _ _ (try_on h ho)
   | false => rw [pub_done ho];exact try_ms (com_ms h)
theorem mst_c {w w':World} {sb mb cb bs b4:Nat} (h:Mst (fun k => ((Ms sb mb k ∨ k = bs) ∨ k = cb) ∨ k = b4) w w') (h4:w.heap.size ≤ b4) (hs:w.heap.size ≤ bs):Mst (Mc sb mb cb) w w' :=
 h.imp fun k hk q => by
  rcases q with ((q | q) | q) | q
  ·exact q.elim .inl fun q => .inr (.inl q)
  ·omega
  ·exact .inr (.inr q)
  ·omega
theorem cm_bad {M M':Nat → Prop} {w w':World} {sb mb cb K b2 b3 bs b4:Nat} {rp r:Tr} (hr:rp = r) (hE:Env M' w' sb mb K r.s) (hC:CatR w' (fun k => ¬ M' k) cb sb r.c) (hok:r.c.t.ok) (hm:Mst (fun k => ((Ms sb mb k ∨ k = bs) ∨ k = cb) ∨ k = b4) w w') (hM:Mo M (fun k => k = b4 ∨ k = bs) = M') (m1:M sb) (m2:M mb)
 (hB:b2 = w.heap.size ∧ b3 = w.heap.size + 1 ∧ b4 = w.heap.size + 2 ∧ bs = w.heap.size + 3) (h0:r.e ≠ 0) :
 CmEnd M w sb mb cb K rp (.returned (.tuple #[.agg #[.int .u64 0,.int .u64 0,.int .u64 0,.int .u64 0,.int .u64 0,.int .u32 0,.slice none 0 0],.int .i64 (r.e:Int)])) w':=by
 subst hM hr
 exact ⟨_,_,_,_,_,_,_,rfl,hE.lessS m1 m2,hC.imp fun k hk _ q => hk (.inl q),hok,mst_c hm (by omega) (by omega),fun _ => rfl,fun q => absurd q h0⟩
theorem cm_good {M M':Nat → Prop} {w w':World} {sb mb cb K b2 b3 bs b4 B:Nat} {rp r:Tr} (hr:rp = r) (hE:Env M' w' sb mb K r.s) (hC:CatR w' (fun k => ¬ M' k) cb sb r.c) (hok:r.c.t.ok) (hm:Mst (fun k => ((Ms sb mb k ∨ k = bs) ∨ k = cb) ∨ k = b4) w w') (hM:Mo M (fun k => k = b4 ∨ k = bs) = M') (m1:M sb) (m2:M mb)
 (hB:b2 = w.heap.size ∧ b3 = w.heap.size + 1 ∧ b4 = w.heap.size + 2 ∧ bs = w.heap.size + 3) (h0:r.e = 0) {A:Option Addr} {c:Nat} (ho:w'.ownsRow B 9 1 (.slice A r.n.ms.length c) r.n.ms.length (strsV r.n.ms)) (hBl:w.heap.size ≤ B) :
 CmEnd M w sb mb cb K rp (.returned (.tuple #[.agg #[.int .u64 (r.n.id.toNat:Int),.int .u64 (r.n.par.toNat:Int),.int .u64 (r.n.seq.toNat:Int),.int .u64 (r.n.off.toNat:Int),.int .u64 (r.n.tim.toNat:Int),.int .u32 (r.n.sch.toNat:Int),.slice A r.n.ms.length c],.int .i64 0])) w':=by
 subst hM hr
 refine ⟨_,_,_,_,_,_,_,by rw [h0];rfl,hE.lessS m1 m2,hC.imp fun k hk _ q => hk (.inl q),hok,mst_c hm (by omega) (by omega),fun q => absurd h0 q,fun _ => ⟨A,c,rfl,own_base ho hBl⟩⟩
theorem strs_one (l:List ByteArray):∀ u ∈ strsV l,u.oneCell' = true:=by
 intro u hu
 unfold strsV at hu
 obtain ⟨x,_,rfl⟩:=List.mem_map.1 hu
 rfl
set_option maxRecDepth 100000 in
set_option maxHeartbeats 8000000 in
theorem catCommit (M:Nat → Prop) (w:World) (sb mb cb K:Nat) (s:So) (hE:Env M w sb mb K s) (hK:K ≤ 790000) (c:Ct) (hc:CatR w (fun k => ¬ M k) cb sb c) (hok:c.t.ok) (hM:M cb) (h1:cb ≠ sb) (h2:cb ≠ mb) (d:Dr) (fA:Option Addr) (fc:Nat) (aA:Option Addr) (ac:Nat) (al:List El) (dA:Option Addr) (dc:Nat) (hd:DrQ w (fun k => ¬ M k) d fA fc aA ac al dA dc) :
 Calls Tryz.prog 13 #[.pointer (some ⟨cb,0,none⟩),.agg #[.bool d.rew,.slice fA d.fs.length fc,.slice aA al.length ac,.slice dA d.drops.length dc,.int .u64 (d.off.toNat:Int),.int .u64 (d.tim.toNat:Int)]] w (CmEnd M w sb mb cb (K + 12) (publish (chCommit d) 3 s c)):=by
 have hcz:cb < w.heap.size:=hE.lt cb hM
 have hsz:sb < w.heap.size:=hE.lt sb hE.m1
 have hmz:mb < w.heap.size:=hE.lt mb hE.m2
 have HM:=hide (And.intro hE.m1 (And.intro hE.m2 hM))
 obtain ⟨oA,hoA⟩:∃ o,o = Obj.cells #[.pointer (some ⟨cb,0,none⟩)] 26:=⟨_,rfl⟩
 obtain ⟨oB,hoB⟩:∃ o,o = Obj.cells #[.bool d.rew,.slice fA d.fs.length fc,.slice aA al.length ac,.slice dA d.drops.length dc,.int .u64 (d.off.toNat:Int),.int .u64 (d.tim.toNat:Int)] 48:=⟨_,rfl⟩
 obtain ⟨oC,hoC⟩:∃ o,o = Obj.cells #[.int .u64 0,.int .u64 0,.int .u64 0,.int .u64 0,.int .u64 0,.int .u32 0,.slice none 0 0] 43:=⟨_,rfl⟩
 have yA:BoxN ((((w.alloc oA).alloc oB).alloc oC).alloc oC) w.heap.size [.pointer (some ⟨cb,0,none⟩)]:=by rw [hoA];exact (((boxN_new w _ _).al oB).al oC).al oC
 have yB:BoxN ((((w.alloc oA).alloc oB).alloc oC).alloc oC) (w.heap.size + 1) [.bool d.rew,.slice fA d.fs.length fc,.slice aA al.length ac,.slice dA d.drops.length dc,.int .u64 (d.off.toNat:Int),.int .u64 (d.tim.toNat:Int)]:=by rw [hoB];exact (((boxN_new (w.alloc oA) _ _).al oC).al oC).at_ (by simp)
 have yC:BoxN ((((w.alloc oA).alloc oB).alloc oC).alloc oC) (w.heap.size + 2) [.int .u64 0,.int .u64 0,.int .u64 0,.int .u64 0,.int .u64 0,.int .u32 0,.slice none 0 0]:=by rw [hoC];exact ((boxN_new ((w.alloc oA).alloc oB) _ _).al _).at_ (by simp)
 have yD:BoxN ((((w.alloc oA).alloc oB).alloc oC).alloc oC) (w.heap.size + 3) [.int .u64 0,.int .u64 0,.int .u64 0,.int .u64 0,.int .u64 0,.int .u32 0,.slice none 0 0]:=by rw [hoC];exact (boxN_new (((w.alloc oA).alloc oB).alloc _) _ _).at_ (by simp)
 have hb4:Below w.heap.size w ((((w.alloc oA).alloc oB).alloc oC).alloc oC):=below_two (below_two (below_two (below_al w oA) (below_al _ oB)) (below_al _ oC)) (below_al _ oC)
 subst hoA hoB hoC
 have HE:=hide hE
 have HC:=hide hc
 have HD:=hide hd
 have HYA:=hide yA
 have HYB:=hide yB
 have HYC:=hide yC
 have HYD:=hide yD
 have HB4:=hide hb4
 clear hE hc hd yA yB yC yD hb4
 go_enter Tryz.func13,Tryz.ntmps13
 go_upto_region 2 with fail
 generalize (((w.alloc (.cells #[.pointer (some ⟨cb,0,none⟩)] 26)).alloc (.cells #[.bool d.rew,.slice fA d.fs.length fc,.slice aA al.length ac,.slice dA d.drops.length dc,.int .u64 (d.off.toNat:Int),.int .u64 (d.tim.toNat:Int)] 48)).alloc (.cells #[.int .u64 0,.int .u64 0,.int .u64 0,.int .u64 0,.int .u64 0,.int .u32 0,.slice none 0 0] 43)).alloc (.cells #[.int .u64 0,.int .u64 0,.int .u64 0,.int .u64 0,.int .u64 0,.int .u32 0,.slice none 0 0] 43) = w4 at *
 obtain ⟨bs,hbs⟩:∃ b,b = w.heap.size + 1 + 1 + 1:=⟨_,rfl⟩
 obtain ⟨b4,hb4⟩:∃ b,b = w.heap.size + 1 + 1:=⟨_,rfl⟩
 obtain ⟨b3,hb3⟩:∃ b,b = w.heap.size + 1:=⟨_,rfl⟩
 obtain ⟨b2,hb2⟩:∃ b,b = w.heap.size:=⟨_,rfl⟩
 rw [← hbs, ← hb4, ← hb3, ← hb2]
 have HBB:Hid (b2 = w.heap.size ∧ b3 = w.heap.size + 1 ∧ b4 = w.heap.size + 2 ∧ bs = w.heap.size + 3):=hide (by omega)
 have y2:=HYA.out.at_ hb2.symm
 have y3:=HYB.out.at_ hb3.symm
 have y4:=HYC.out.at_ (show w.heap.size + 2 = b4 by omega)
 have ys:=HYD.out.at_ (show w.heap.size + 3 = bs by omega)
 have n1:w.heap.size ≤ bs:=by omega
 have hNn:∀ k,(k = b4 ∨ k = bs) → w.heap.size ≤ k ∧ k < w4.heap.size:=fun k q => by have:=y4.z;have:=ys.z;omega
 have hE4:=HE.out.addS HB4.out hNn
 have hC4:=HC.out.addS HB4.out (N:=fun k => k = b4 ∨ k = bs) fun k q => (hNn k q).1
 have hD4:=HD.out.addS HB4.out (N:=fun k => k = b4 ∨ k = bs) fun k q => (hNn k q).1
 obtain ⟨M',hM'⟩:∃ M',Mo M (fun k => k = b4 ∨ k = bs) = M':=⟨_,rfl⟩
 have HMM:Hid (∀ k,M' k ↔ M k ∨ k = b4 ∨ k = bs):=hide (fun k => by rw [← hM'];exact Iff.rfl)
 have HM':=hide hM'
 rw [hM'] at hE4 hC4 hD4
 clear hM'
 have hMl:=HE.out.lt
 have hcs:cb ≠ bs:=by omega
 have m2:¬ M' b2:=fun q => ((HMM.out b2).1 q).elim (fun q => by have:=hMl b2 q;omega) (fun q => by omega)
 have m3:¬ M' b3:=fun q => ((HMM.out b3).1 q).elim (fun q => by have:=hMl b3 q;omega) (fun q => by omega)
 have hsb:bs ≠ sb ∧ bs ≠ mb:=by omega
 have hxM:∀ k,(Ms sb mb k ∨ k = bs) → M' k:=fun k q => (HMM.out k).2 (q.elim (fun q => .inl (q.elim (fun e => e ▸ HM.out.1) (fun e => e ▸ HM.out.2.1))) fun e => .inr (.inr e))
 have hyM:∀ k,((Ms sb mb k ∨ k = bs) ∨ k = cb) → M' k:=fun k q => q.elim (hxM k) fun e => (HMM.out k).2 (.inl (e ▸ hM))
 have hpub:=catPublish M' (fun k => Ms sb mb k ∨ k = bs) (SnJ M' bs) (chCommit d) 41 #[.pointer (some ⟨b2,0,none⟩),.pointer (some ⟨b3,0,none⟩),.pointer (some ⟨bs,0,none⟩)] w4 sb mb cb K s hE4 (by omega) c hC4 hok (hyM cb (.inr rfl)) h1 h2 (.inl (.inl rfl)) (.inl (.inr rfl)) (fun q => q.elim (fun q => q.elim h1 h2) hcs) hxM enter41
  (fun e n W W' h m => h.keep m (fun q => by rcases q with q | q | q;exact hsb.1 q;exact hsb.2 q;exact hcs q.symm) (fun k hk q => hk (hyM k (by rcases q with q | q | q;exact .inl (.inl (.inl q));exact .inl (.inl (.inr q));exact .inr q)))) 1 default (SnJ.bad ys (by decide))
  (fun W s2 c2 K2 e0 n0 m hK2 hE2 hC2 hok2 hJ2 => catChange M' W b2 b3 bs sb mb cb K2 s2 hE2 hK2 c2 hC2 hok2 (hyM cb (.inr rfl)) (hxM bs (.inr rfl)) h1 h2 hsb.1 hsb.2 hcs (m.box y2 fun q => m2 (hyM b2 q)) m2 d fA fc aA ac al dA dc (m.box y3 fun q => m3 (hyM b3 q)) m3 (hD4.mst m fun k hk q => hk (hyM k q)) e0 n0 hJ2)
 have q2:=y2.cell 0 _ rfl
 have HY4:=hide y4
 have HN4:Hid (¬ ((Ms sb mb b4 ∨ b4 = bs) ∨ b4 = cb)):=hide fun q => by rcases q with (q | q) | q;rcases q with q | q;omega;omega;omega;omega
 have HMR:Hid (Mst (fun k => ((Ms sb mb k ∨ k = bs) ∨ k = cb) ∨ k = b4) w w4):=hide (Mst.of HB4.out)
 have HN:Hid (bs ≠ b4 ∧ b4 ≠ sb ∧ b4 ≠ mb ∧ b4 ≠ cb ∧ bs ≠ sb ∧ bs ≠ mb ∧ bs ≠ cb):=hide (by omega)
 clear hE4 hC4 hD4 hNn hMl m2 m3 hxM hyM y2 y3 y4 ys hbs hb4 hb3 hb2 n1 HE HC HD HYA HYB HYC HYD HB4 hcz hsz hmz hcs hsb
 obtain ⟨r,hr⟩:∃ r,publish (chCommit d) 3 s c = r:=⟨_,rfl⟩
 rw [hr] at hpub
 have HR:=hide hr
 clear hr
 go_wp2_with fail
 refine hpub.mono ?_
 rintro e w5 ⟨rfl,hE5,hC5,hok5,hm5,e5,n5,hJ5,hq5⟩
 clear hpub q2
 have y45:=hm5.box HY4.out HN4.out
 have HM5:=hide (HMR.out.trans (hm5.imp (N:=fun k => ((Ms sb mb k ∨ k = bs) ∨ k = cb) ∨ k = b4) fun _ _ q => .inl q))
 have HE5:=hide hE5
 have HC5:=hide hC5
 have HJ5:=hide (And.intro hJ5 hq5)
 have HOK5:=hide hok5
 clear hE5 hC5 hok5 hm5 hJ5 hq5
 by_cases h0:r.e = 0
 ·have t11:((r.e:Int) != 0) = false:=by rw [h0];rfl
  obtain ⟨v0,v1,v2,v3,v4,v5,v6,yb5,hv⟩:=HJ5.out.1
  obtain ⟨he5,hn5⟩:=HJ5.out.2 h0
  obtain ⟨mA,mc,hve,hrm⟩:=hv he5
  rw [hn5] at hve hrm
  simp only [Array.mk.injEq,List.cons.injEq,and_true] at hve
  obtain ⟨rfl,rfl,rfl,rfl,rfl,rfl,rfl⟩:=hve
  have hms:r.n.ms.length ≤ 9:=by have h:=pub_ms (d:=d) 3 s c hok;rw [HR.out] at h;exact h
  have b6:=yb5.cell 6 _ rfl
  have hcl:=cloneS w5 w5.heap.size r.n.ms.length mc mA (strsV r.n.ms) hrm.rd (strs_one _) (by omega) (Nat.le_refl _)
  have HYB5:=hide yb5
  have HY45:=hide y45
  have H0:=hide h0
  clear yb5 y45 hrm hv he5 hn5 h0
  go_wp2_with fail
  refine hcl.mono ?_
  rintro e w6 ⟨v,rfl,hown,hb6⟩
  clear hcl b6
  obtain ⟨A6,c6,rfl⟩:=own_slice hown
  have yb6:=HYB5.out.keep hb6 HYB5.out.z
  have b6:=yb6.cell 6 _ rfl
  have f6:=yb6.free 6 (by simp)
  have HOW:=hide hown
  have HB6:=hide hb6
  have HYB6:=hide yb6
  clear hown hb6 yb6
  go_upto_region 6 with fail
  have o7:=(Oth.refl bs w6).set 6 (.slice A6 r.n.ms.length c6)
  have y7s:=HYB6.out.set (j:=6) (.slice A6 r.n.ms.length c6) rfl
  have hown7:=own_keep HOW.out fun k hk hl => o7.block k hl fun e => by have:=(HOW.out.lt k hk).1;have:=HYB5.out.z;omega
  have y47:=(HY45.out.keep HB6.out HY45.out.z).oth o7 (fun e => HN.out.1 e.symm)
  have hE7:=(HE5.out.low HB6.out).oth o7 ((HMM.out bs).2 (.inr (.inr rfl))) HN.out.2.2.2.2.1 HN.out.2.2.2.2.2.1
  have hC7:=(HC5.out.low HB6.out).mst (Mst.ofOth (M:=fun k => k = bs) o7 rfl) (fun k hk e => hk ((HMM.out k).2 (.inr (.inr e)))) (fun e => HN.out.2.2.2.2.2.2 e.symm)
  have HM7:=hide ((HM5.out.tail HB6.out HM5.out.size).trans (Mst.ofOth (M:=fun k => ((Ms sb mb k ∨ k = bs) ∨ k = cb) ∨ k = b4) o7 (.inl (.inl (.inr rfl)))))
  have hl7:=o7.size
  clear o7 b6 f6
  generalize w6.setCell ⟨bs,6,none⟩ (.slice A6 r.n.ms.length c6) = w7 at *
  have s0:=y7s.cell 0 _ rfl
  have s1:=y7s.cell 1 _ rfl
  have s2:=y7s.cell 2 _ rfl
  have s3:=y7s.cell 3 _ rfl
  have s4:=y7s.cell 4 _ rfl
  have s5:=y7s.cell 5 _ rfl
  have s6:=y7s.cell 6 _ rfl
  have g0:=y47.free 0 (by simp)
  have g1:=y47.free 1 (by simp)
  have g2:=y47.free 2 (by simp)
  have g3:=y47.free 3 (by simp)
  have g4:=y47.free 4 (by simp)
  have g5:=y47.free 5 (by simp)
  have g6:=y47.free 6 (by simp)
  have p0:=y47.cell 0 _ rfl
  have p1:=y47.cell 1 _ rfl
  have p2:=y47.cell 2 _ rfl
  have p3:=y47.cell 3 _ rfl
  have p4:=y47.cell 4 _ rfl
  have p5:=y47.cell 5 _ rfl
  have p6:=y47.cell 6 _ rfl
  have o:=oth_set7b w7 b4 (.int .u64 (r.n.id.toNat:Int)) (.int .u64 (r.n.par.toNat:Int)) (.int .u64 (r.n.seq.toNat:Int)) (.int .u64 (r.n.off.toNat:Int)) (.int .u64 (r.n.tim.toNat:Int)) (.int .u32 (r.n.sch.toNat:Int)) (.slice A6 r.n.ms.length c6)
  have HYT:=hide (y47.set7b (v0:=.int .u64 (r.n.id.toNat:Int)) (v1:=.int .u64 (r.n.par.toNat:Int)) (v2:=.int .u64 (r.n.seq.toNat:Int)) (v3:=.int .u64 (r.n.off.toNat:Int)) (v4:=.int .u64 (r.n.tim.toNat:Int)) (v5:=.int .u32 (r.n.sch.toNat:Int)) (v6:=.slice A6 r.n.ms.length c6))
  have HG:=hide (cm_good (K:=K + 12) HR.out (hE7.oth o ((HMM.out b4).2 (.inr (.inl rfl))) HN.out.2.1 HN.out.2.2.1) (hC7.mst (Mst.ofOth (M:=fun k => k = b4) o rfl) (fun k hk e => hk ((HMM.out k).2 (.inr (.inl e)))) (fun e => HN.out.2.2.2.1 e.symm)) HOK5.out (HM7.out.trans (Mst.ofOth (M:=fun k => ((Ms sb mb k ∨ k = bs) ∨ k = cb) ∨ k = b4) o (.inr rfl))) HM'.out HM.out.1 HM.out.2.1 HBB.out H0.out (own_keep hown7 fun k hk hl => o.block k hl fun e => by have:=(hown7.lt k hk).1;have:=HY45.out.z;omega) HM5.out.size)
  clear hE7 hC7 hown7 o y7s y47
  go_wp2_with fail
  refine bodyPost_ret (ret_sn2 (b:=b4) rfl _ _ rfl HYT.out) rfl ?_
  exact HG.out
 ·have t11:((r.e:Int) != 0) = true:=by rw [bne_iff_ne];omega
  have q0:=y45.cell 0 _ rfl
  have g0:=y45.free 0 (by simp)
  have q1:=y45.cell 1 _ rfl
  have g1:=y45.free 1 (by simp)
  have q2:=y45.cell 2 _ rfl
  have g2:=y45.free 2 (by simp)
  have q3:=y45.cell 3 _ rfl
  have g3:=y45.free 3 (by simp)
  have q4:=y45.cell 4 _ rfl
  have g4:=y45.free 4 (by simp)
  have q5:=y45.cell 5 _ rfl
  have g5:=y45.free 5 (by simp)
  have q6:=y45.cell 6 _ rfl
  have g6:=y45.free 6 (by simp)
  have o:=oth_set7b w5 b4 (.int .u64 0) (.int .u64 0) (.int .u64 0) (.int .u64 0) (.int .u64 0) (.int .u32 0) (.slice none 0 0)
  have HYT:=hide (y45.set7b (v0:=.int .u64 0) (v1:=.int .u64 0) (v2:=.int .u64 0) (v3:=.int .u64 0) (v4:=.int .u64 0) (v5:=.int .u32 0) (v6:=.slice none 0 0))
  have HG:=hide (cm_bad (K:=K + 12) HR.out (HE5.out.oth o ((HMM.out b4).2 (.inr (.inl rfl))) HN.out.2.1 HN.out.2.2.1) (HC5.out.mst (Mst.ofOth (M:=fun k => k = b4) o rfl) (fun k hk e => hk ((HMM.out k).2 (.inr (.inl e)))) (fun e => HN.out.2.2.2.1 e.symm)) HOK5.out (HM5.out.trans (Mst.ofOth (M:=fun k => ((Ms sb mb k ∨ k = bs) ∨ k = cb) ∨ k = b4) o (.inr rfl))) HM'.out HM.out.1 HM.out.2.1 HBB.out h0)
  clear h0 y45 o
  go_wp2_with fail
  refine bodyPost_ret (ret_sn2 (b:=b4) rfl _ _ rfl HYT.out) rfl ?_
  exact HG.out
end Go.Proofs.YtpfofefecamkfaaGreatDoor
