/- A STORE IN A CATALOG's MEMORY: names that may be; what holds ahead of each call. No statement of the seat is proved here; no condition. -/
import Derived.Test.YtpfofefecamkfaaGreatDoorCtN
namespace Go.Proofs.YtpfofefecamkfaaGreatDoor
open Go.RowKit

/-- names that may be, things not too long -/
structure So.fit (s:So):Prop where
 nm:∀ p ∈ s.m,pathOk p.1 = true
 sm:s.small
 ce:s.cell.size ≤ 24
theorem fit_of {s s2:So} (h:s.fit) (hm:s2.m = s.m) (hc:s2.cell = s.cell):s2.fit:=⟨by rw [hm];exact h.nm,fun p hp => h.sm p (by rw [← hm];exact hp),by rw [hc];exact h.ce⟩
theorem So.change_cell (s:So):s.change.1.cell = s.cell:=by unfold So.change;split <;> rfl
theorem fit_change {s:So} (h:s.fit):s.change.1.fit:=fit_of h s.change_m s.change_cell
theorem put_cell (s:So) (nm:ByteArray) (bs:List UInt8):(s.put nm bs).1.cell = s.cell:=by
 unfold So.put
 repeat' split
 all_goals first | rfl | exact s.change_cell
theorem sync_cell (s:So) (nm:ByteArray):(s.sync nm).1.cell = s.cell:=by
 unfold So.sync
 repeat' split
 all_goals first | rfl | exact s.change_cell
theorem fit_put {s:So} (h:s.fit) (nm:ByteArray) (bs:List UInt8):(s.put nm bs).1.fit:=by
 refine ⟨?_,(le_put s nm bs).small h.sm,by rw [put_cell];exact h.ce⟩
 unfold So.put
 split
 ·exact h.nm
 split
 ·exact h.nm
 rename_i hp
 split
 ·exact h.nm
 split
 ·exact h.nm
 split
 ·exact h.nm
 split
 ·exact (fit_change h).nm
 ·intro p hpm
  rcases mem_put hpm with q | q
  ·exact (fit_change h).nm p q
  ·rw [q]
   simpa using hp
theorem fit_sync {s:So} (h:s.fit) (nm:ByteArray):(s.sync nm).1.fit:=by
 refine ⟨?_,(le_sync s nm).small h.sm,by rw [sync_cell];exact h.ce⟩
 unfold So.sync
 split
 ·exact h.nm
 split
 ·exact h.nm
 ·rename_i t ht
  split
  ·intro p hpm
   rcases mem_put hpm with q | q
   ·exact (fit_change h).nm p q
   ·rw [q]
    exact (show pathOk nm = true from h.nm (nm,t) (mget_mem ht))
  ·exact (fit_change h).nm
theorem fit_swap {s:So} (h:s.fit) (o nw:ByteArray):(s.swap o nw).1.fit:=by
 have hce:(s.swap o nw).1.cell.size ≤ 24:=by
  unfold So.swap
  split
  ·exact h.ce
  split
  ·exact h.ce
  split
  ·exact h.ce
  rename_i hp
  split
  ·exact path_le (by simpa using hp)
  ·rw [s.change_cell];exact h.ce
 refine ⟨?_,(le_swap s o nw).small h.sm,hce⟩
 unfold So.swap
 split
 ·exact h.nm
 split
 ·exact h.nm
 split
 ·exact h.nm
 split
 ·exact (fit_change h).nm
 ·exact (fit_change h).nm
theorem fit_size {s:So} (h:s.fit) {nm:ByteArray} (hn:nm ∈ namesM s.m):nm.size ≤ 24:=by
 obtain ⟨t,ht⟩:=names_has hn
 exact path_le (h.nm _ (mget_mem ht))
theorem fit_new (q:Int):(So.new q).fit:=⟨fun _ h => (List.not_mem_nil h).elim,fun _ h => (List.not_mem_nil h).elim,Nat.zero_le _⟩
theorem get_len {s:So} (h:s.fit) (nm:ByteArray):(s.get nm).1.length ≤ 65536:=by
 unfold So.get
 split
 ·exact Nat.zero_le _
 split
 ·exact Nat.zero_le _
 ·rename_i t ht
  exact h.sm _ (mget_mem ht)
/-- what holds ahead of each call: the store; M: the blocks that are written -/
structure Env (M:Nat → Prop) (w:World) (sb mb K:Nat) (s:So):Prop where
 st:∃ N,N ≤ K ∧ StR (fun k => ¬ M k) w sb mb N s
 m1:M sb
 m2:M mb
 lt:∀ k,M k → k < w.heap.size
 g9:∀ k,M k → 9 ≤ k
 tb:Tabs w
 fit:s.fit
section
variable {M:Nat → Prop} {w w':World} {sb mb K K2:Nat} {s s2:So}
theorem Env.hP (h:Env M w sb mb K s):∀ k,w.heap.size ≤ k → ¬ M k:=fun k hk q => by have:=h.lt k q;omega
theorem Env.low (h:Env M w sb mb K s) (hb:Below w.heap.size w w'):Env M w' sb mb K s :=
 ⟨by obtain ⟨N,hN,hS⟩:=h.st;exact ⟨N,hN,hS.keep hb⟩,h.m1,h.m2,fun k hk => Nat.lt_of_lt_of_le (h.lt k hk) hb.size,h.g9,h.tb.low hb,h.fit⟩
theorem Env.more (h:Env M w sb mb K s) (hK:K ≤ K2):Env M w sb mb K2 s :=
 ⟨by obtain ⟨N,hN,hS⟩:=h.st;exact ⟨N,Nat.le_trans hN hK,hS⟩,h.m1,h.m2,h.lt,h.g9,h.tb,h.fit⟩
/-- a call on the store was made -/
theorem Env.on (h:Env M w sb mb K s) {N2:Nat} (hS:StR (fun k => ¬ M k) w' sb mb N2 s2) (hN:N2 ≤ K2) (O:Ost sb mb w w') (hf:s2.fit):Env M w' sb mb K2 s2 :=
 ⟨⟨N2,hN,hS⟩,h.m1,h.m2,fun k hk => Nat.lt_of_lt_of_le (h.lt k hk) O.size,h.g9,h.tb.mst (Mst.ofOst (M:=M) O h.m1 h.m2) h.g9,hf⟩
end
/-- what a call on a catalog may write -/
def Mc (sb mb cb:Nat) (k:Nat):Prop:=k = sb ∨ k = mb ∨ k = cb
def Ms (sb mb:Nat) (k:Nat):Prop:=k = sb ∨ k = mb
theorem Mst.ost {sb mb:Nat} {w w':World} (h:Ost sb mb w w'):Mst (Ms sb mb) w w':=.ofOst h (.inl rfl) (.inr rfl)
theorem Mst.toC {sb mb cb:Nat} {w w':World} (h:Mst (Ms sb mb) w w'):Mst (Mc sb mb cb) w w':=h.imp fun _ _ q => q.elim .inl fun q => .inr (.inl q)
/-- a catalog in memory -/
def CatR (w:World) (P:Nat → Prop) (cb sb:Nat) (c:Ct):Prop :=
 ∃ sA sc ss nA nc ns,BoxN w cb [.pointer (some ⟨sb,0,none⟩),.slice sA (List.length ss) sc,.slice nA (List.length ns) nc,.int .u64 (c.t.cur.toNat:Int),.string c.nm] ∧ TabQ w P sA sc ss nA nc ns ∧ ss.map plS = c.t.ss ∧ ns.map plN = c.t.ns
section
variable {P Q:Nat → Prop} {w w':World} {sb cb:Nat} {c:Ct}
theorem CatR.low (h:CatR w P cb sb c) (hb:Below w.heap.size w w'):CatR w' P cb sb c:=by
 obtain ⟨sA,sc,ss,nA,nc,ns,hx,ht,e1,e2⟩:=h
 exact ⟨sA,sc,ss,nA,nc,ns,hx.keep hb hx.z,ht.low hb,e1,e2⟩
theorem CatR.mst {M:Nat → Prop} (h:CatR w P cb sb c) (m:Mst M w w') (hP:∀ k,P k → ¬ M k) (hc:¬ M cb):CatR w' P cb sb c:=by
 obtain ⟨sA,sc,ss,nA,nc,ns,hx,ht,e1,e2⟩:=h
 exact ⟨sA,sc,ss,nA,nc,ns,m.box hx hc,ht.mst m hP,e1,e2⟩
theorem CatR.imp (h:CatR w P cb sb c) (hi:∀ k,P k → k < w.heap.size → Q k):CatR w Q cb sb c:=by
 obtain ⟨sA,sc,ss,nA,nc,ns,hx,ht,e1,e2⟩:=h
 exact ⟨sA,sc,ss,nA,nc,ns,hx,ht.imp hi,e1,e2⟩
theorem CatR.c0 (h:CatR w P cb sb c):w.cell? ⟨cb,0,none⟩ = some (.pointer (some ⟨sb,0,none⟩)):=by
 obtain ⟨sA,sc,ss,nA,nc,ns,hx,_⟩:=h
 exact hx.cell 0 _ rfl
theorem CatR.c4 (h:CatR w P cb sb c):w.cell? ⟨cb,4,none⟩ = some (.string c.nm):=by
 obtain ⟨sA,sc,ss,nA,nc,ns,hx,_⟩:=h
 exact hx.cell 4 _ rfl
theorem CatR.lt (h:CatR w P cb sb c):cb < w.heap.size:=by
 obtain ⟨sA,sc,ss,nA,nc,ns,hx,_⟩:=h
 exact hx.z
end
end Go.Proofs.YtpfofefecamkfaaGreatDoor
