/- PLAIN: catalogs: what opening, publishing, drafts, a store without faults come to. No statement of the seat is proved here; no condition. -/
import Derived.Test.YtpfofefecamkfaaGreatDoorCtX
import Derived.Test.YtpfofefecamkfaaGreatDoorH0
namespace Go.Proofs.YtpfofefecamkfaaGreatDoor
open Go.RowKit

theorem u64_next (x:UInt64):IntKind.u64.wrap ((x.toNat:Int) + 1) = ((x + 1).toNat:Int):=by
 rw [IntKind.wrap_u64,UInt64.toNat_add]
 have:(1:UInt64).toNat = 1:=rfl
 omega
theorem names_le {l:List ByteArray} (h:namesOk l = true):l.length ≤ 8 ∧ ∀ x ∈ l,x.size ≤ 24:=by
 unfold namesOk at h
 simp only [Bool.and_eq_true,decide_eq_true_eq,List.all_eq_true,List.mem_range] at h
 refine ⟨h.1,fun x hx => ?_⟩
 obtain ⟨i,hi,rfl⟩:=List.mem_iff_getElem.1 hx
 have h2:=(h.2 i hi).1
 rw [List.getD_eq_getElem?_getD,List.getElem?_eq_getElem hi] at h2
 unfold pathOk at h2
 simp only [Bool.and_eq_true,decide_eq_true_eq] at h2
 exact h2.1.2
theorem Tb.ok.now_ms {t:Tb} (h:t.ok):t.now.ms.length ≤ 8 ∧ ∀ x ∈ t.now.ms,x.size ≤ 24:=by
 obtain ⟨_,_,hn⟩:=right_has h
 unfold Tb.now
 split
 ·rcases Nat.lt_or_ge t.nowI.toNat t.ns.length with hl | hl
  ·rw [List.getD_eq_getElem?_getD,List.getElem?_eq_getElem hl]
   have h2:namesOk (t.ns[t.nowI.toNat]).ms = true:=hn _ (List.getElem_mem hl)
   exact names_le h2
  ·rw [List.getD_eq_getElem?_getD,List.getElem?_eq_none hl]
   exact ⟨Nat.zero_le _,fun x hx => (List.not_mem_nil hx).elim⟩
 ·exact ⟨Nat.zero_le _,fun x hx => (List.not_mem_nil hx).elim⟩
theorem sn1_parts (nw:Sn) (d:Dr) (sh:UInt32):(sn1 nw d sh).id = nw.id + 1 ∧ (sn1 nw d sh).par = nw.id ∧ (sn1 nw d sh).tim = (if d.tim.toNat < nw.tim.toNat then nw.tim else d.tim) ∧ (sn1 nw d sh).sch = sh ∧ (sn1 nw d sh).ms = []:=by
 unfold sn1
 split <;> exact ⟨rfl,rfl,rfl,rfl,rfl⟩
theorem ents_len (s:So):∀ (ms:List ByteArray) (acc:List (List En)),(s.ents ms acc).1.flatten.length ≤ acc.flatten.length + ms.length * 64
 | [],acc => by show acc.flatten.length ≤ _;omega
 | nm :: r,acc => by
   show (if _ then _ else _:List (List En) × Nat).1.flatten.length ≤ _
   split
   ·simp
   split
   ·simp
   ·have h1:=ents_len s r (acc ++ [(opE (s.get nm).1).2])
    have h2:=(opE_ok (s.get nm).1).len
    rw [List.flatten_append,List.length_append,List.flatten_singleton] at h1
    rw [List.length_cons]
    omega
theorem entries_len (s:So) (ms:List ByteArray):(s.entries ms).1.length ≤ ms.length * 64:=by
 unfold So.entries
 split
 ·exact Nat.zero_le _
 ·have h1:=ents_len s ms []
  rw [List.flatten_nil,List.length_nil,Nat.zero_add] at h1
  exact Nat.le_trans (mg_len (s.ents ms []).1.flatten) h1
theorem draft_e0 {s:So} {t:Tb} {d:Dr} {sh:UInt32} {er:Nat} (h:draft0 t d = er) (h0:er ≠ 0):(s.draft t d sh).1 = er:=by unfold So.draft;rw [h,if_pos h0]
theorem draft_e1 {s:So} {t:Tb} {d:Dr} {sh:UInt32} {er:Nat} (hd:draft0 t d = 0) (h:(s.entries t.now.ms).2 = er) (h0:er ≠ 0):(s.draft t d sh).1 = er:=by unfold So.draft;rw [hd,if_neg (by simp),h,if_pos h0]
theorem draft_on {s:So} {t:Tb} {d:Dr} {sh:UInt32} {old:List En} (hd:draft0 t d = 0) (h:s.entries t.now.ms = (old,0)):s.draft t d sh = draft1 t d sh old:=by unfold So.draft;rw [hd,if_neg (by simp),h,if_neg (by simp)]
theorem dr1_drop {t:Tb} {d:Dr} {sh:UInt32} {old:List En} (h:(d.drops.all fun n => hasEn old n) = false):draft1 t d sh old = (150,default,[]):=by unfold draft1;rw [if_pos h]
theorem dr1_seq {t:Tb} {d:Dr} {sh:UInt32} {old:List En} (h:(d.drops.all fun n => hasEn old n) = true) (h2:d.rew = true ∧ (d.adds.any fun x => decide (t.now.seq.toNat < x.seq.toNat)) = true):draft1 t d sh old = (1,default,[]):=by unfold draft1;rw [if_neg (by rw [h];simp),if_pos h2]
theorem dr1_id {t:Tb} {d:Dr} {sh:UInt32} {old:List En} (h:(d.drops.all fun n => hasEn old n) = true) (h2:¬ (d.rew = true ∧ (d.adds.any fun x => decide (t.now.seq.toNat < x.seq.toNat)) = true)) (h3:1073741824 < (sn1 t.now d sh).id.toNat):draft1 t d sh old = (6,default,[]):=by unfold draft1;rw [if_neg (by rw [h];simp),if_neg h2,if_pos h3]
theorem dr1_full {t:Tb} {d:Dr} {sh:UInt32} {old:List En} (h:(d.drops.all fun n => hasEn old n) = true) (h2:¬ (d.rew = true ∧ (d.adds.any fun x => decide (t.now.seq.toNat < x.seq.toNat)) = true)) (h3:¬ 1073741824 < (sn1 t.now d sh).id.toNat) (h4:64 < (all1 t.now d old).length):draft1 t d sh old = (4,default,[]):=by unfold draft1;rw [if_neg (by rw [h];simp),if_neg h2,if_neg h3,if_pos h4]
theorem dr1_few {t:Tb} {d:Dr} {sh:UInt32} {old:List En} (h:(d.drops.all fun n => hasEn old n) = true) (h2:¬ (d.rew = true ∧ (d.adds.any fun x => decide (t.now.seq.toNat < x.seq.toNat)) = true)) (h3:¬ 1073741824 < (sn1 t.now d sh).id.toNat) (h4:¬ 64 < (all1 t.now d old).length) (h5:d.rew = false ∧ t.now.ms.length < 8):draft1 t d sh old = (0, { sn1 t.now d sh with ms:=t.now.ms },adds1 t.now d):=by unfold draft1;rw [if_neg (by rw [h];simp),if_neg h2,if_neg h3,if_neg h4,if_pos h5]
theorem dr1_all {t:Tb} {d:Dr} {sh:UInt32} {old:List En} (h:(d.drops.all fun n => hasEn old n) = true) (h2:¬ (d.rew = true ∧ (d.adds.any fun x => decide (t.now.seq.toNat < x.seq.toNat)) = true)) (h3:¬ 1073741824 < (sn1 t.now d sh).id.toNat) (h4:¬ 64 < (all1 t.now d old).length) (h5:¬ (d.rew = false ∧ t.now.ms.length < 8)):draft1 t d sh old = (0,sn1 t.now d sh,all1 t.now d old):=by unfold draft1;rw [if_neg (by rw [h];simp),if_neg h2,if_neg h3,if_neg h4,if_neg h5]
theorem tbOpen_ok {l:List UInt8} (h:(tbOpen l).2 = 0):(tbOpen l).1.ok:=by
 unfold tbOpen at h ⊢
 by_cases h0:oErr l = 0
 ·rw [if_pos h0]
  unfold oErr at h0
  split at h0
  ·cases h0
  split at h0
  ·cases h0
  split at h0
  ·cases h0
  rename_i hn
  rw [not_or,not_or] at hn
  have:=hn.2.1
  unfold Tb.ok
  show rightP _ _ (curU _).toNat = true
  simpa [curU,curOf] using this
 ·rw [if_neg h0] at h
  exact absurd h h0
theorem refresh_ok {s:So} {c:Ct} (h:c.t.ok):(s.refresh c).1.t.ok:=by
 unfold So.refresh
 split
 ·exact h
 split
 ·exact h
 split
 ·exact h
 ·rename_i h3
  exact tbOpen_ok (by simpa using h3)
theorem pub_done {chg:So → Tb → Ch} {k:Nat} {s:So} {c:Ct} (h:(try1 c (chg s c.t)).on = false):publish chg (k + 1) s c = try1 c (chg s c.t):=by
 show (if _ then _ else _) = _
 rw [if_neg (by rw [h];simp)]
theorem pub_on {chg:So → Tb → Ch} {k:Nat} {s:So} {c:Ct} (h:(try1 c (chg s c.t)).on = true):publish chg (k + 1) s c = publish chg k (try1 c (chg s c.t)).s (try1 c (chg s c.t)).c:=by
 show (if _ then _ else _) = _
 rw [if_pos h]
theorem pub_a {chg:So → Tb → Ch} {k:Nat} {s:So} {c:Ct} {h:Ch} (hh:chg s c.t = h) (h0:h.e ≠ 0):publish chg (k + 1) s c = ⟨h.s,c,h.e,false,default⟩:=by
 have e:try1 c (chg s c.t) = ⟨h.s,c,h.e,false,default⟩:=by rw [hh];unfold try1;rw [if_pos h0]
 rw [pub_done (by rw [e]),e]
theorem pub_b {chg:So → Tb → Ch} {k:Nat} {s:So} {c:Ct} {h:Ch} (hh:chg s c.t = h) (h0:h.e = 0) (h1:rightP h.t.ss h.t.ns h.t.cur.toNat = false):publish chg (k + 1) s c = ⟨h.s,c,1,false,default⟩:=by
 have e:try1 c (chg s c.t) = ⟨h.s,c,1,false,default⟩:=by rw [hh];unfold try1;rw [if_neg (by rw [h0];simp),if_pos h1]
 rw [pub_done (by rw [e]),e]
theorem try_c {chg:So → Tb → Ch} {s:So} {c:Ct} {h:Ch} (hh:chg s c.t = h) (h0:h.e = 0) (h1:rightP h.t.ss h.t.ns h.t.cur.toNat = true) {st:So × ByteArray × Nat} (hst:h.s.stage 116 (wrS h.t.ss h.t.ns) = st) {q:So × Nat} (hq:(if st.2.2 = 0 then st.1.swap c.nm st.2.1 else (st.1,st.2.2)) = q):try1 c (chg s c.t) = try3 c h q st.2.1:=by
 rw [hh];unfold try1;rw [if_neg (by rw [h0];simp),if_neg (by rw [h1];simp),hst];unfold try2;rw [hq]
theorem try3_a {c:Ct} {h:Ch} {q:So × Nat} {nm:ByteArray} (h0:q.2 = 0):try3 c h q nm = ⟨q.1,⟨h.t,nm⟩,0,false,h.n⟩:=by unfold try3;rw [if_pos h0]
theorem try3_b {c:Ct} {h:Ch} {q:So × Nat} {nm:ByteArray} (h0:q.2 ≠ 0) (h1:q.2 ≠ 123):try3 c h q nm = ⟨q.1,c,q.2,false,h.n⟩:=by unfold try3;rw [if_neg h0,if_pos h1]
theorem try3_c {c:Ct} {h:Ch} {q:So × Nat} {nm:ByteArray} (h1:q.2 = 123) (h2:(q.1.refresh c).2 ≠ 0):try3 c h q nm = ⟨q.1,c,(q.1.refresh c).2,false,h.n⟩:=by unfold try3;rw [if_neg (by rw [h1];simp),if_neg (by rw [h1];simp),if_pos h2]
theorem try3_d {c:Ct} {h:Ch} {q:So × Nat} {nm:ByteArray} (h1:q.2 = 123) (h2:(q.1.refresh c).2 = 0):try3 c h q nm = ⟨q.1,(q.1.refresh c).1,0,true,h.n⟩:=by unfold try3;rw [if_neg (by rw [h1];simp),if_neg (by rw [h1];simp),if_neg (by rw [h2];simp)]
theorem rf_same {s:So} {c:Ct} (h:(s.refresh c).2 ≠ 0):(s.refresh c).1 = c:=by
 unfold So.refresh at h ⊢
 split
 ·rfl
 rename_i h1
 rw [if_neg h1] at h
 split
 ·rfl
 rename_i h2
 rw [if_neg h2] at h
 split
 ·rfl
 rename_i h3
 rw [if_neg h3] at h
 exact absurd rfl h
def noC:Ct:=⟨default,no_⟩
def tb1 (p:Ps):Tb:=⟨[p],[],0⟩
def So.begin2 (_s:So) (p:Ps) (st:So × ByteArray × Nat) (q:So × Nat):So × Ct × Nat:=if q.2 = 0 then (q.1,⟨tb1 p,st.2.1⟩,0) else (q.1,noC,q.2)
def So.begin (s:So) (p:Ps):So × Ct × Nat :=
 if rightP [p] [] 0 = false then (s,noC,1)
 else s.begin2 p (s.stage 116 (wrS [p] [])) (if (s.stage 116 (wrS [p] [])).2.2 = 0 then (s.stage 116 (wrS [p] [])).1.swap no_ (s.stage 116 (wrS [p] [])).2.1 else ((s.stage 116 (wrS [p] [])).1,(s.stage 116 (wrS [p] [])).2.2))
def So.open3 (r:So × Ct × Nat):So × Option Ct × Nat:=if r.2.2 = 0 then (r.1,some r.2.1,0) else (r.1,none,r.2.2)
def So.open2 (s:So) (p:Ps):So × Ct × Nat :=
 if s.dead = true then (s,noC,120) else if s.cell.size = 0 then s.begin p else (s,s.refresh noC)
def So.openC (s:So) (p:Ps):So × Option Ct × Nat:=if check p.1 p.2 ≠ 0 then (s,none,check p.1 p.2) else So.open3 (s.open2 p)
theorem grow_right {ss:List Ps} {ns:List Sn} {cur:Nat} {s:Ps} (h:growErr ss ns cur s = 0):rightP (ss ++ [s]) ns cur = true:=by
 unfold growErr at h
 split at h
 ·cases h
 split at h
 ·assumption
 ·cases h
theorem wider_ok:∀ (l:List Fd) (t:Tb),t.ok → (wider t l).2 = 0 → (wider t l).1.ok
 | [],t,h,_ => h
 | f :: r,t,h,h0 => by
   unfold wider at h0 ⊢
   split at h0
   ·cases h0
   rename_i h1
   rw [if_neg h1]
   split at h0
   ·rename_i h2
    exact absurd h0 h2
   rename_i h2
   rw [if_neg h2]
   split at h0
   ·rename_i h3
    exact absurd h0 h3
   rename_i h3
   rw [if_neg h3]
   exact wider_ok r _ (grow_right (by simpa using h3)) h0
theorem com_a {d:Dr} {s:So} {t u:Tb} {e:Nat} (h:wider t d.fs = (u,e)) (h0:e ≠ 0):chCommit d s t = ⟨s,e,default,default⟩:=by unfold chCommit;rw [h,if_pos h0]
theorem com_b {d:Dr} {s:So} {t u:Tb} {g:Nat × Sn × List En} (h:wider t d.fs = (u,0)) (hg:s.draft t d u.lastS.1 = g):chCommit d s t = chCommit2 s u g:=by unfold chCommit;rw [h,if_neg (by simp),hg]
theorem com2_a {s:So} {u:Tb} {g:Nat × Sn × List En} (h:g.1 ≠ 0):chCommit2 s u g = ⟨s,g.1,default,default⟩:=by unfold chCommit2;rw [if_pos h]
theorem com2_b {s:So} {u:Tb} {g:Nat × Sn × List En} (h:g.1 = 0) (h2:errE g.2.2 ≠ 0):chCommit2 s u g = ⟨s,errE g.2.2,default,default⟩:=by unfold chCommit2;rw [if_neg (by rw [h];simp),if_pos h2]
theorem com2_c {s:So} {u:Tb} {g:Nat × Sn × List En} {st:So × ByteArray × Nat} (h:g.1 = 0) (h2:errE g.2.2 = 0) (hst:s.stage 109 (wrES g.2.2) = st):chCommit2 s u g = chCommit3 s u g.2.1 st:=by unfold chCommit2;rw [if_neg (by rw [h];simp),if_neg (by rw [h2];simp),hst]
theorem com3_a {s:So} {u:Tb} {sn:Sn} {st:So × ByteArray × Nat} (h:st.2.2 ≠ 0):chCommit3 s u sn st = ⟨st.1,st.2.2,default,default⟩:=by unfold chCommit3;rw [if_pos h]
theorem com3_b {s:So} {u:Tb} {sn sn2:Sn} {st:So × ByteArray × Nat} (h:st.2.2 = 0) (h2 : { sn with ms:=sn.ms ++ [st.2.1] } = sn2) (h3:pushErr u.ss u.ns sn2 ≠ 0):chCommit3 s u sn st = ⟨st.1,pushErr u.ss u.ns sn2,default,default⟩:=by subst h2;unfold chCommit3;rw [if_neg (by rw [h];simp),if_pos h3]
theorem com3_c {s:So} {u:Tb} {sn sn2:Sn} {st:So × ByteArray × Nat} (h:st.2.2 = 0) (h2 : { sn with ms:=sn.ms ++ [st.2.1] } = sn2) (h3:pushErr u.ss u.ns sn2 = 0):chCommit3 s u sn st = ⟨st.1,0,⟨u.ss,u.ns ++ [sn2],sn2.id⟩,sn2⟩:=by subst h2;unfold chCommit3;rw [if_neg (by rw [h];simp),if_neg (by rw [h3];simp)]
/-- no fuse, no fault, nothing loose -/
structure So.firm (s:So):Prop where
 calm:s.calm
 all:∀ p ∈ s.m,p.2.loose = false
theorem change_calm {s:So} (h:s.calm):s.change = (s,0):=by
 obtain ⟨a,b,c⟩:=h
 obtain ⟨q,u,m,ce,fu,fa,de⟩:=s
 dsimp only at a b c
 subst a b c
 rfl
theorem firm_new (q:Int):(So.new q).firm:=⟨⟨rfl,rfl,rfl⟩,fun _ h => (List.not_mem_nil h).elim⟩
theorem put_calm {s:So} (h:s.calm) (nm:ByteArray) (bs:List UInt8):((s.put nm bs).2 ≠ 0 ∧ (s.put nm bs).1 = s) ∨ s.put nm bs = (s.add nm bs,0):=by
 unfold So.put
 split
 ·exact .inl ⟨by simp,rfl⟩
 split
 ·exact .inl ⟨by simp,rfl⟩
 split
 ·exact .inl ⟨by simp,rfl⟩
 split
 ·exact .inl ⟨by simp,rfl⟩
 split
 ·exact .inl ⟨by simp,rfl⟩
 rw [change_calm h]
 right
 rfl
theorem mget_put {m:Mp} (nm:ByteArray) (t:Th):mget (mput m nm t) nm = some t:=mget_put_same _ nm t
/-- what a staging without faults does -/
def So.sync1 (s:So) (nm:ByteArray) (bs:List UInt8):So := { s.add nm bs with m:=mput (s.add nm bs).m nm ⟨bs,false⟩ }
theorem stage2_calm {s:So} (h:s.calm) (nm:ByteArray) (bs:List UInt8):((s.stage2 nm bs).2.2 ≠ 0 ∧ (s.stage2 nm bs).1 = s) ∨ s.stage2 nm bs = (s.sync1 nm bs,nm,0):=by
 unfold So.stage2
 rcases put_calm h nm bs with ⟨h1,h2⟩ | h1
 ·rw [if_pos h1]
  exact .inl ⟨h1,h2⟩
 ·have hc:(s.add nm bs).calm:=⟨h.dead,h.fuse,h.fault⟩
  have hs:(s.add nm bs).sync nm = (s.sync1 nm bs,0):=by
   unfold So.sync
   rw [if_neg (by rw [hc.dead];simp),show mget (s.add nm bs).m nm = some ⟨bs,true⟩ from mget_put _ _]
   dsimp only
   rw [change_calm hc]
   rfl
  rw [h1,if_neg (by simp),hs,if_neg (by simp)]
  exact .inr rfl
theorem firm_sync1 {s:So} (h:s.firm) (nm:ByteArray) (bs:List UInt8):(s.sync1 nm bs).firm:=by
 refine ⟨⟨h.calm.dead,h.calm.fuse,h.calm.fault⟩,fun p hp => ?_⟩
 rcases List.mem_append.1 (show p ∈ mdel (mput s.m nm ⟨bs,true⟩) nm ++ [(nm,⟨bs,false⟩)] from hp) with q | q
 ·obtain ⟨q1,q2⟩:=mdel_mem.1 q
  rcases mem_put q1 with q3 | q3
  ·exact h.all p q3
  ·exact absurd (by rw [q3]) q2
 ·rw [List.mem_singleton.1 q]
theorem firm_stage {s:So} (h:s.firm) (c:UInt8) (bs:List UInt8):(s.stage c bs).1.firm:=by
 unfold So.stage
 split
 ·exact h
 split
 ·exact h
 split
 ·exact h
 rcases stage2_calm h.calm (stName c (mostOf (namesM s.m) + 1)) bs with ⟨_,h2⟩ | h2
 ·rw [h2];exact h
 ·rw [h2];exact firm_sync1 h _ _
theorem firm_swap {s:So} (h:s.firm) (o nw:ByteArray):(s.swap o nw).1.firm:=by
 unfold So.swap
 split
 ·exact h
 split
 ·exact h
 split
 ·exact h
 rw [change_calm h.calm]
 exact ⟨⟨h.calm.dead,h.calm.fuse,h.calm.fault⟩,h.all⟩
theorem firm_try3 {c:Ct} {g:Ch} {q:So × Nat} {nm:ByteArray} (hq:q.1.firm):(try3 c g q nm).s.firm:=by
 unfold try3
 split
 ·exact hq
 split
 ·exact hq
 split
 ·exact hq
 ·exact hq
theorem firm_try {c:Ct} {g:Ch} (h:g.s.firm):(try1 c g).s.firm:=by
 unfold try1
 split
 ·exact h
 split
 ·exact h
 have hst:=firm_stage h 116 (wrS g.t.ss g.t.ns)
 generalize g.s.stage 116 (wrS g.t.ss g.t.ns) = st at *
 unfold try2
 refine firm_try3 ?_
 split
 ·exact firm_swap hst _ _
 ·exact hst
theorem firm_publish {chg:So → Tb → Ch} (hc:∀ s t,s.firm → (chg s t).s.firm):∀ (k:Nat) (s:So) (c:Ct),s.firm → (publish chg k s c).s.firm
 | 0,_,_,h => h
 | k + 1,s,c,h => by
   have h1:=firm_try (c:=c) (hc s c.t h)
   show (if _ then _ else _:Tr).s.firm
   split
   ·exact firm_publish hc k _ _ h1
   ·exact h1
theorem firm_commit (d:Dr) (s:So) (t:Tb) (h:s.firm):(chCommit d s t).s.firm:=by
 unfold chCommit
 split
 ·exact h
 unfold chCommit2
 split
 ·exact h
 split
 ·exact h
 have hst:=firm_stage h 109 (wrES (s.draft t d (wider t d.fs).1.lastS.1).2.2)
 unfold chCommit3
 split
 ·exact hst
 split
 ·exact hst
 ·exact hst
theorem firm_begin2 {s:So} {p:Ps} {st:So × ByteArray × Nat} {q:So × Nat} (hq:q.1.firm):(s.begin2 p st q).1.firm:=by
 unfold So.begin2
 split
 ·exact hq
 ·exact hq
theorem firm_begin {s:So} (h:s.firm) (p:Ps):(s.begin p).1.firm:=by
 unfold So.begin
 split
 ·exact h
 have hst:=firm_stage h 116 (wrS [p] [])
 generalize s.stage 116 (wrS [p] []) = st at *
 refine firm_begin2 ?_
 split
 ·exact firm_swap hst _ _
 ·exact hst
theorem firm_open {s:So} (h:s.firm) (p:Ps):(s.openC p).1.firm:=by
 unfold So.openC
 split
 ·exact h
 have h2:(s.open2 p).1.firm:=by
  unfold So.open2
  split
  ·exact h
  split
  ·exact firm_begin h p
  ·exact h
 unfold So.open3
 split
 ·exact h2
 ·exact h2
theorem firm_loose {s:So} (h:s.firm):looseM s.m = []:=by
 unfold looseM
 rw [List.filter_eq_nil_iff]
 intro a _ q
 unfold looseAt at q
 split at q
 ·rename_i t ht
  rw [h.all _ (mget_mem ht)] at q
  cases q
 ·cases q
theorem firm_crash {s:So} (h:s.firm) (keep:List Int):s.crash keep = s:=by
 unfold So.crash
 rw [firm_loose h]
 obtain ⟨⟨a,b,c⟩,_⟩:=h
 obtain ⟨q,u,m,ce,fu,fa,de⟩:=s
 dsimp only at a b c
 subst a b c
 rfl
end Go.Proofs.YtpfofefecamkfaaGreatDoor
