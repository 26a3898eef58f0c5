/- PLAIN: what a catalog's commit leaves behind its staging. No statement of the seat is proved here; no condition. -/
import Derived.Test.YtpfofefecamkfaaGreatDoorCtC
namespace Go.Proofs.YtpfofefecamkfaaGreatDoor
open Go.RowKit

theorem below_al (w:World) (o:Obj):Below w.heap.size w (w.alloc o):=(Below.refl w.heap.size w).alloc (Nat.le_refl _) o
/-- the blocks of M, and a row's own -/
def Mn (M:Nat → Prop) (v:Value) (k:Nat):Prop:=M k ∨ v.ownBlock = some k
theorem Mst.grown {w w':World} {o:Option Nat} (h:w.grownBy w' o):Mst (fun k => o = some k) w w':=⟨h.os,h.tape,h.output,h.size,fun k hk hn => h.block k hk fun q => hn q.symm⟩
theorem Env.mst {M N:Nat → Prop} {w w':World} {sb mb K:Nat} {s:So} (h:Env M w sb mb K s) (m:Mst N w w') (hN:∀ k,N k → M k ∧ k ≠ sb ∧ k ≠ mb):Env M w' sb mb K s:=by
 obtain ⟨N',hN',hS⟩:=h.st
 obtain ⟨D,hD⟩:=hS.mp
 exact ⟨⟨N',hN',⟨m.box hS.bx (fun q => (hN sb q).2.1 rfl),⟨D,hD.move m.size (m.block mb hD.lt (fun q => (hN mb q).2.2 rfl)) (fun p hp hl => m.cell hl fun q => hp (hN _ q).1)⟩,hS.nP,hS.ne,hS.ok⟩⟩,h.m1,h.m2,fun k hk => Nat.lt_of_lt_of_le (h.lt k hk) m.size,h.g9,h.tb.mst (m.imp (N:=M) fun k _ q => (hN k q).1) h.g9,h.fit⟩
theorem Env.addN {M:Nat → Prop} {w w':World} {sb mb K:Nat} {s:So} (h:Env M w sb mb K s) (hb:Below w.heap.size w w') {v:Value} (hN:∀ k,v.ownBlock = some k → w.heap.size ≤ k ∧ k < w'.heap.size):Env (Mn M v) w' sb mb K s:=by
 obtain ⟨N,hN',hS⟩:=h.st
 have hz:=h.tb.z
 have l1:=h.lt sb h.m1
 have l2:=h.lt mb h.m2
 exact ⟨⟨N,hN',(hS.imp (Q:=fun k => ¬ Mn M v k) (fun k hk hl q => q.elim hk fun e => by have:=(hN k e).1;omega) (fun q => q (.inl h.m1)) (fun q => q (.inl h.m2))).keep hb⟩,.inl h.m1,.inl h.m2,fun k hk => hk.elim (fun q => Nat.lt_of_lt_of_le (h.lt k q) hb.size) fun e => (hN k e).2,fun k hk => hk.elim (h.g9 k) fun e => by have:=(hN k e).1;omega,h.tb.low hb,h.fit⟩
theorem Env.lessN {M:Nat → Prop} {w:World} {sb mb K:Nat} {s:So} {v:Value} (h:Env (Mn M v) w sb mb K s) (h1:M sb) (h2:M mb):Env M w sb mb K s:=by
 obtain ⟨N,hN,hS⟩:=h.st
 exact ⟨⟨N,hN,hS.imp (Q:=fun k => ¬ M k) (fun k hk _ q => hk (.inl q)) (fun q => q h1) (fun q => q h2)⟩,h1,h2,fun k hk => h.lt k (.inl hk),fun k hk => h.g9 k (.inl hk),h.tb,h.fit⟩
theorem Mst.tail {M:Nat → Prop} {w w1 w2:World} {B:Nat} (h:Mst M w w1) (hb:Below B w1 w2) (hB:w.heap.size ≤ B):Mst M w w2 :=
 ⟨hb.os.trans h.os,hb.tape.trans h.tape,hb.output.trans h.output,Nat.le_trans h.size hb.size,fun k hk hn => (hb.block k (Nat.lt_of_lt_of_le hk hB)).trans (h.block k hk hn)⟩
theorem draft_ms {s:So} {t:Tb} {d:Dr} {sh:UInt32} (h:t.ok):(s.draft t d sh).2.1.ms.length ≤ 8:=by
 have h1:=h.now_ms.1
 have h2:=(sn1_parts t.now d sh).2.2.2.2
 unfold So.draft
 split
 ·exact Nat.zero_le _
 split
 ·exact Nat.zero_le _
 unfold draft1
 split
 ·exact Nat.zero_le _
 split
 ·exact Nat.zero_le _
 split
 ·exact Nat.zero_le _
 split
 ·exact Nat.zero_le _
 split
 ·exact h1
 ·show (sn1 t.now d sh).ms.length ≤ 8
  rw [h2]
  exact Nat.zero_le _
/-- behind Push -/
theorem push_step {w w':World} {e:Ending} {s:So} {u:Tb} {sn sn2:Sn} {st:So × ByteArray × Nat} (h:st.2.2 = 0) (h2 : { sn with ms:=sn.ms ++ [st.2.1] } = sn2) (hp:PushEnd w u.ss u.ns sn2 e w') :
 ∃ er T n,chCommit3 s u sn st = ⟨st.1,er,T,n⟩ ∧ StepEnd w er T.ss T.ns T.cur.toNat e w' ∧ (er = 0 → n = sn2):=by
 unfold PushEnd at hp
 by_cases h3:pushErr u.ss u.ns sn2 = 0
 ·rw [if_pos h3] at hp
  exact ⟨0,_,_,com3_c h h2 h3,hp,fun _ => rfl⟩
 ·rw [if_neg h3] at hp
  exact ⟨_,default,default,com3_b h h2 h3,hp,fun q => absurd q h3⟩
end Go.Proofs.YtpfofefecamkfaaGreatDoor
