/- PLAIN: two catalogs of one store, one commit behind the other. No statement of the seat is proved here; no condition. -/
import Derived.Test.YtpfofefecamkfaaGreatDoorCtV
namespace Go.Proofs.YtpfofefecamkfaaGreatDoor
open Go.RowKit

/-- a store whose cell names the table T -/
structure Inv (s:So) (T:Tb) (n k:Nat):Prop where
 room:Roomy s k
 good:GoodT s T n
 cell:mget s.m s.cell = some ⟨wrS T.ss T.ns,false⟩
/-- what a catalog knows -/
structure Kn (s:So) (T:Tb) (n:Nat) (c:Ct):Prop where
 good:∃ m,m ≤ n ∧ GoodT s c.t m
 has:∃ t,mget s.m c.nm = some t
 same:c.nm = s.cell → c.t = T
theorem swap_on {s:So} (h:s.calm) {o nw:ByteArray} (ho:s.cell = o) (hp:pathOk nw = true):s.swap o nw = ({ s with cell:=nw },0):=by
 unfold So.swap
 rw [if_neg (by rw [h.dead];simp),if_neg (by rw [ho];simp),if_neg (by rw [hp];simp),change_calm h,if_pos rfl]
theorem swap_off {s:So} (h:s.calm) {o nw:ByteArray} (ho:s.cell ≠ o):s.swap o nw = (s,123):=by
 unfold So.swap
 rw [if_neg (by rw [h.dead];simp),if_pos]
 rw [beq_eq_false_iff_ne]
 exact fun q => ho (bytes_same q)
theorem now_snoc {t:Tb} {sn:Sn} (h:(⟨t.ss,t.ns ++ [sn],sn.id⟩:Tb).ok):(⟨t.ss,t.ns ++ [sn],sn.id⟩:Tb).now = sn:=by
 rw [now_last h]
 show wasN (t.ns ++ [sn]) (t.ns ++ [sn]).length = sn
 rw [show (t.ns ++ [sn]).length = t.ns.length + 1 by simp,wasN_succ,List.getD_eq_getElem?_getD,List.getElem?_append_right (Nat.le_refl _)]
 simp
theorem try_fst {s:So} {c:Ct} {n k:Nat} {o:UInt64} {T:Tb} (hI:Inv s T n k) (hK:Kn s T n c) (hk:k < 170) (hn:n < 28) (ho:o.toNat = n + 1) :
 ∃ (sn:Sn) (s2:So) (nm2:ByteArray),chCommit (dOff o) s c.t = ⟨s.sync1 (stName 109 (mostOf (namesM s.m) + 1)) (wrES []),0,⟨c.t.ss,c.t.ns ++ [sn],sn.id⟩,sn⟩ ∧ (⟨c.t.ss,c.t.ns ++ [sn],sn.id⟩:Tb).ok ∧
  (s.sync1 (stName 109 (mostOf (namesM s.m) + 1)) (wrES [])).stage 116 (wrS c.t.ss (c.t.ns ++ [sn])) = (s2,nm2,0) ∧ Roomy s2 (k + 2) ∧ s2.cell = s.cell ∧ pathOk nm2 = true ∧ mget s2.m nm2 = some ⟨wrS c.t.ss (c.t.ns ++ [sn]),false⟩ ∧
  (∀ x t,mget s.m x = some t → mget s2.m x = some t ∧ x ≠ nm2) ∧ sn.seq.toNat = sn.id.toNat ∧ sn.off = o ∧ sn.tim.toNat = 0 ∧ sn.sch = 1 ∧ (∀ x ∈ sn.ms,mget s2.m x = some ⟨wrES [],false⟩) ∧ ∃ m,m ≤ n ∧ GoodT s c.t m ∧ sn.id.toNat = m + 1:=by
 obtain ⟨m,hm,hg⟩:=hK.good
 obtain ⟨sn,hc,hr,g1,g2,g3,g4,g5,g6⟩:=commit_good hg hI.room (o:=o) (by omega) (by omega) (by omega) (by omega)
 have hr1:=hI.room.next (c:=109) (by omega) (.inl rfl) (bs:=wrES []) (by decide +kernel)
 have hf1:=hI.room.fresh (c:=109) (by omega) (.inl rfl)
 generalize stName 109 (mostOf (namesM s.m) + 1) = nm1 at *
 have hst:=hr1.stage (c:=116) (by omega) (.inr rfl) (wrS_le hr)
 have hr2:=hr1.next (c:=116) (by omega) (.inr rfl) (wrS_le hr)
 have hf2:=hr1.fresh (c:=116) (by omega) (.inr rfl)
 have hp2:=(num_at (k:=mostOf (namesM (s.sync1 nm1 (wrES [])).m)) (by have:=hr1.most;omega) (c:=116) (.inr rfl)).2
 generalize stName 116 (mostOf (namesM (s.sync1 nm1 (wrES [])).m) + 1) = nm2 at *
 have hkeep:∀ x t,mget s.m x = some t → mget ((s.sync1 nm1 (wrES [])).sync1 nm2 (wrS c.t.ss (c.t.ns ++ [sn]))).m x = some t ∧ x ≠ nm2:=fun x t hx => by
  have h1:mget (s.sync1 nm1 (wrES [])).m x = some t:=(sync1_get (has_new hf1 hx)).trans hx
  exact ⟨(sync1_get (has_new hf2 h1)).trans h1,has_new hf2 h1⟩
 refine ⟨sn,_,nm2,hc,hr,hst,hr2,rfl,hp2,sync1_new,hkeep,by omega,g3,g4,g5,fun x hx => ?_,m,hm,hg,g1⟩
 rcases g6 x hx with rfl | q
 ·have h1:mget (s.sync1 x (wrES [])).m x = some ⟨wrES [],false⟩:=sync1_new
  exact (sync1_get (has_new hf2 h1)).trans h1
 ·exact (hkeep x _ (hg.ms x q)).1
theorem GoodT.keep {s s2:So} {t:Tb} {n:Nat} (h:GoodT s t n) (hk:∀ x u,mget s.m x = some u → mget s2.m x = some u):GoodT s2 t n:=⟨h.ok,h.ss,h.len,h.id,h.seq,h.off,h.tim,h.sch,fun x hx => hk x _ (h.ms x hx)⟩
theorem commit_fresh {s:So} {c:Ct} {n k j:Nat} {o:UInt64} {T:Tb} (hI:Inv s T n k) (hK:Kn s T n c) (hf:c.nm = s.cell) (hk:k < 170) (hn:n < 28) (ho:o.toNat = n + 1) {r:Tr} (hr:publish (chCommit (dOff o)) (j + 1) s c = r) :
 r.e = 0 ∧ r.n.id.toNat = n + 1 ∧ Inv r.s r.c.t (n + 1) (k + 2) ∧ r.c.nm = r.s.cell ∧ Kn r.s r.c.t (n + 1) r.c ∧ ∀ c2,Kn s T n c2 → Kn r.s r.c.t (n + 1) c2:=by
 obtain ⟨sn,s2,nm2,hc,hok,hst,hr2,hcell,hp2,hnew,hkeep,g1,g2,g3,g4,g5,m,hm,hg,g6⟩:=try_fst hI hK hk hn ho
 have ht:=hK.same hf
 have hmn:m = n:=by
  have h1:=hg.len
  have h2:=hI.good.len
  rw [ht] at h1
  omega
 subst hmn
 have hsw:=swap_on (o:=c.nm) hr2.firm.calm (hcell.trans hf.symm) hp2
 have h1:=try_c hc rfl hok hst (q:=({ s2 with cell:=nm2 },0)) (by rw [if_pos rfl];exact hsw)
 rw [try3_a rfl] at h1
 have h2:publish (chCommit (dOff o)) (j + 1) s c = ⟨{ s2 with cell:=nm2 },⟨⟨c.t.ss,c.t.ns ++ [sn],sn.id⟩,nm2⟩,0,false,sn⟩:=by rw [pub_done (by rw [h1]),h1]
 rw [h2] at hr
 subst hr
 have hnow:=now_snoc (t:=c.t) (sn:=sn) hok
 have hgood:GoodT { s2 with cell:=nm2 } ⟨c.t.ss,c.t.ns ++ [sn],sn.id⟩ (m + 1) :=
  ⟨hok,hg.ss,by show (c.t.ns ++ [sn]).length = _;rw [List.length_append,hg.len];rfl,by rw [hnow];exact g6,by rw [hnow];omega,by rw [hnow,g2];exact ho,by rw [hnow];exact g3,by rw [hnow,g4];decide,by rw [hnow];exact g5⟩
 exact ⟨rfl,g6,⟨hr2.cell nm2,hgood,hnew⟩,rfl,⟨⟨m + 1,Nat.le_refl _,hgood⟩,⟨_,hnew⟩,fun _ => rfl⟩,fun c2 h => by
  obtain ⟨m2,h3,h4⟩:=h.good
  obtain ⟨t2,h5⟩:=h.has
  exact ⟨⟨m2,by omega,(h4.keep fun x u hx => (hkeep x u hx).1).cell nm2⟩,⟨t2,(hkeep _ _ h5).1⟩,fun q => absurd q (hkeep _ _ h5).2⟩⟩
theorem refresh_on {s:So} {c:Ct} {T:Tb} {n k:Nat} (hI:Inv s T n k):s.refresh c = (⟨T,s.cell⟩,0):=by
 have hg:=get_has hI.room.firm.calm.dead hI.cell
 rw [rf_on hI.room.firm.calm.dead (by rw [hg]) (by rw [hg];show (tbOpen (wrS T.ss T.ns)).2 = 0;rw [tbOpen_wr hI.good.ok]),hg]
 show ((⟨(tbOpen (wrS T.ss T.ns)).1,s.cell⟩:Ct),0) = _
 rw [tbOpen_wr hI.good.ok]
theorem kn_fresh {s:So} {T:Tb} {n k:Nat} (hI:Inv s T n k):Kn s T n ⟨T,s.cell⟩:=⟨⟨n,Nat.le_refl _,hI.good⟩,⟨_,hI.cell⟩,fun _ => rfl⟩
theorem commit_stale {s:So} {c:Ct} {n k j:Nat} {o:UInt64} {T:Tb} (hI:Inv s T n k) (hK:Kn s T n c) (hf:c.nm ≠ s.cell) (hk:k < 170) (hn:n < 28) (ho:o.toNat = n + 1) :
 ∃ s',publish (chCommit (dOff o)) (j + 1) s c = publish (chCommit (dOff o)) j s' ⟨T,s'.cell⟩ ∧ Inv s' T n (k + 2) ∧ ∀ c2,Kn s T n c2 → Kn s' T n c2:=by
 obtain ⟨sn,s2,nm2,hc,hok,hst,hr2,hcell,hp2,hnew,hkeep,g1,g2,g3,g4,g5,m,hm,hg,g6⟩:=try_fst hI hK hk hn ho
 have hI2:Inv s2 T n (k + 2):=⟨hr2,hI.good.keep fun x u hx => (hkeep x u hx).1,by rw [hcell];exact (hkeep _ _ hI.cell).1⟩
 have hsw:=swap_off (o:=c.nm) (nw:=nm2) hr2.firm.calm (by rw [hcell];exact fun q => hf q.symm)
 have h1:=try_c hc rfl hok hst (q:=(s2,123)) (by rw [if_pos rfl];exact hsw)
 have hrf:=refresh_on (c:=c) hI2
 rw [try3_d rfl (by rw [hrf])] at h1
 refine ⟨s2,?_,hI2,fun c2 h => ?_⟩
 ·rw [pub_on (by rw [h1]),h1]
  dsimp only
  rw [hrf]
 ·obtain ⟨m2,h3,h4⟩:=h.good
  obtain ⟨t2,h5⟩:=h.has
  exact ⟨⟨m2,h3,h4.keep fun x u hx => (hkeep x u hx).1⟩,⟨t2,(hkeep _ _ h5).1⟩,fun q => h.same (by rw [q,hcell])⟩
theorem Inv.more {s:So} {T:Tb} {n k k2:Nat} (h:Inv s T n k) (hk:k ≤ k2):Inv s T n k2:=⟨⟨h.room.firm,h.room.quota,by have:=h.room.used;omega,by have:=h.room.most;omega⟩,h.good,h.cell⟩
theorem commit_any {s:So} {c:Ct} {n k:Nat} {o:UInt64} {T:Tb} (hI:Inv s T n k) (hK:Kn s T n c) (hk:k < 160) (hn:n < 28) (ho:o.toNat = n + 1) {r:Tr} (hr:publish (chCommit (dOff o)) 3 s c = r) :
 r.e = 0 ∧ r.n.id.toNat = n + 1 ∧ Inv r.s r.c.t (n + 1) (k + 4) ∧ r.c.nm = r.s.cell ∧ Kn r.s r.c.t (n + 1) r.c ∧ ∀ c2,Kn s T n c2 → Kn r.s r.c.t (n + 1) c2:=by
 by_cases hf:c.nm = s.cell
 ·obtain ⟨a,b,c',d,e,f⟩:=commit_fresh hI hK hf (by omega) hn ho hr
  exact ⟨a,b,c'.more (by omega),d,e,f⟩
 ·obtain ⟨s',h1,h2,h3⟩:=commit_stale (j:=2) hI hK hf (by omega) hn ho
  obtain ⟨a,b,c',d,e,f⟩:=commit_fresh (j:=1) h2 (kn_fresh h2) rfl (by omega) hn ho (h1.symm.trans hr)
  exact ⟨a,b,c',d,e,fun c2 h => f c2 (h3 c2 h)⟩
end Go.Proofs.YtpfofefecamkfaaGreatDoor
