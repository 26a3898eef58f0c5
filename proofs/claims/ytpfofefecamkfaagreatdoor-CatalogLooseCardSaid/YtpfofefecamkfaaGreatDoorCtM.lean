/- PLAIN: what catalogs commit in a store with room enough, one behind the other. No statement of the seat is proved here; no condition. -/
import Derived.Test.YtpfofefecamkfaaGreatDoorCtPl
namespace Go.Proofs.YtpfofefecamkfaaGreatDoor
open Go.RowKit

theorem num_tab:((List.range 200).all fun k => decide (numOf (stName 109 (k + 1)) = k + 1) && (pathOk (stName 109 (k + 1)) && (decide (numOf (stName 116 (k + 1)) = k + 1) && pathOk (stName 116 (k + 1))))) = true:=by decide +kernel
theorem num_at {k:Nat} (h:k < 200) {c:UInt8} (hc:c = 109 ∨ c = 116):numOf (stName c (k + 1)) = k + 1 ∧ pathOk (stName c (k + 1)) = true:=by
 have h1:=List.all_eq_true.1 num_tab k (List.mem_range.2 h)
 simp only [Bool.and_eq_true,decide_eq_true_eq] at h1
 rcases hc with rfl | rfl
 ·exact ⟨h1.1,h1.2.1⟩
 ·exact ⟨h1.2.2.1,h1.2.2.2⟩
theorem names_mem {m:Mp} {s:ByteArray} {t:Th} (h:mget m s = some t):s ∈ namesM m:=mem_names (mget_mem h)
theorem le_fold:∀ (l:List ByteArray) (a:Nat),a ≤ l.foldl (fun m s => max m (numOf s)) a ∧ ∀ x ∈ l,numOf x ≤ l.foldl (fun m s => max m (numOf s)) a
 | [],a => ⟨Nat.le_refl _,fun _ h => (List.not_mem_nil h).elim⟩
 | y :: l,a => by
   have ih:=le_fold l (max a (numOf y))
   rw [List.foldl_cons]
   refine ⟨by have:=ih.1;omega,fun x hx => ?_⟩
   rcases List.mem_cons.1 hx with rfl | hx
   ·have:=ih.1;omega
   ·exact ih.2 x hx
theorem fold_le {K:Nat}:∀ (l:List ByteArray) (a:Nat),a ≤ K → (∀ x ∈ l,numOf x ≤ K) → l.foldl (fun m s => max m (numOf s)) a ≤ K
 | [],a,h,_ => h
 | y :: l,a,h,hl => by
   rw [List.foldl_cons]
   exact fold_le l _ (by have:=hl y (List.mem_cons_self ..);omega) fun x hx => hl x (List.mem_cons_of_mem _ hx)
theorem le_most {l:List ByteArray} {x:ByteArray} (h:x ∈ l):numOf x ≤ mostOf l:=(le_fold l 0).2 x h
theorem most_le {l:List ByteArray} {K:Nat} (h:∀ x ∈ l,numOf x ≤ K):mostOf l ≤ K:=fold_le l 0 (Nat.zero_le _) h
theorem sync1_get {s:So} {nm r:ByteArray} {bs:List UInt8} (h:r ≠ nm):mget (s.sync1 nm bs).m r = mget s.m r:=by
 show mget (mput (mput s.m nm ⟨bs,true⟩) nm ⟨bs,false⟩) r = _
 rw [mget_put_other h,mget_put_other h]
theorem sync1_new {s:So} {nm:ByteArray} {bs:List UInt8}:mget (s.sync1 nm bs).m nm = some ⟨bs,false⟩:=mget_put _ _
theorem has_new {s:So} {nm:ByteArray} (h:mhas s.m nm = false) {x:ByteArray} {t:Th} (hx:mget s.m x = some t):x ≠ nm:=fun e => by
 subst e
 unfold mhas at h
 rw [hx] at h
 cases h
theorem names_sync1 {s:So} {nm x:ByteArray} {bs:List UInt8} (h:x ∈ namesM (s.sync1 nm bs).m):x = nm ∨ x ∈ namesM s.m:=by
 by_cases e:x = nm
 ·exact .inl e
 ·right
  obtain ⟨t,ht⟩:=names_has h
  rw [sync1_get e] at ht
  exact names_mem ht
/-- a store with room enough -/
structure Roomy (s:So) (k:Nat):Prop where
 firm:s.firm
 quota:s.quota = 4000000
 used:s.used ≤ (k:Int) * 20000
 most:mostOf (namesM s.m) ≤ k
theorem Roomy.fresh {s:So} {k:Nat} (h:Roomy s k) (hk:k < 190) {c:UInt8} (hc:c = 109 ∨ c = 116):mhas s.m (stName c (mostOf (namesM s.m) + 1)) = false:=by
 rw [← Bool.not_eq_true]
 intro q
 unfold mhas at q
 rw [Option.isSome_iff_exists] at q
 obtain ⟨t,ht⟩:=q
 have h1:=le_most (names_mem ht)
 have h2:=(num_at (k:=mostOf (namesM s.m)) (by have:=h.most;omega) hc).1
 omega
theorem Roomy.stage {s:So} {k:Nat} (h:Roomy s k) (hk:k < 190) {c:UInt8} (hc:c = 109 ∨ c = 116) {bs:List UInt8} (hb:bs.length ≤ 20000):s.stage c bs = (s.sync1 (stName c (mostOf (namesM s.m) + 1)) bs,stName c (mostOf (namesM s.m) + 1),0):=by
 have hlo:isLow c = true:=by rcases hc with rfl | rfl <;> rfl
 have hm:=h.most
 rw [stage_on hlo h.firm.calm.dead (by omega)]
 have hp:=(num_at (k:=mostOf (namesM s.m)) (by omega) hc).2
 have hf:=h.fresh hk hc
 generalize stName c (mostOf (namesM s.m) + 1) = nm at *
 have hput:s.put nm bs = (s.add nm bs,0):=by
  unfold So.put
  rw [if_neg (by rw [h.firm.calm.dead];simp),if_neg (by rw [hp];simp),if_neg (by rw [hf];simp),if_neg (by omega),if_neg (by have:=h.used;rw [h.quota];omega),change_calm h.firm.calm]
  rfl
 rcases stage2_calm h.firm.calm nm bs with ⟨h1,_⟩ | h1
 ·exfalso
  unfold So.stage2 at h1
  rw [hput,if_neg (by simp)] at h1
  have hcl:(s.add nm bs).calm:=⟨h.firm.calm.dead,h.firm.calm.fuse,h.firm.calm.fault⟩
  have hs:(s.add nm bs).sync nm = (s.sync1 nm bs,0):=by
   unfold So.sync
   rw [if_neg (by rw [hcl.dead];simp),show mget (s.add nm bs).m nm = some ⟨bs,true⟩ from mget_put _ _]
   dsimp only
   rw [change_calm hcl]
   rfl
  rw [hs,if_neg (by simp)] at h1
  exact h1 rfl
 ·exact h1
theorem Roomy.next {s:So} {k:Nat} (h:Roomy s k) (hk:k < 190) {c:UInt8} (hc:c = 109 ∨ c = 116) {bs:List UInt8} (hb:bs.length ≤ 20000):Roomy (s.sync1 (stName c (mostOf (namesM s.m) + 1)) bs) (k + 1):=by
 refine ⟨firm_sync1 h.firm _ _,h.quota,?_,most_le fun x hx => ?_⟩
 ·show s.used + (bs.length:Int) ≤ _
  have:=h.used
  omega
 ·have hm:=h.most
  rcases names_sync1 hx with rfl | hx
  ·have:=(num_at (k:=mostOf (namesM s.m)) (by omega) hc).1
   omega
  ·have:=le_most hx
   omega
theorem Roomy.cell {s:So} {k:Nat} (h:Roomy s k) (nm:ByteArray):Roomy { s with cell:=nm } k:=⟨⟨⟨h.firm.calm.dead,h.firm.calm.fuse,h.firm.calm.fault⟩,h.firm.all⟩,h.quota,h.used,h.most⟩
theorem right_at {ss:List Ps} {ns:List Sn} {cur:Nat} (h:rightP ss ns cur = true):(∀ j,j < ss.length → sOk ss j = true) ∧ (∀ j,j < ns.length → nOk ss ns j = true) ∧ cur = (wasN ns ns.length).id.toNat:=by
 unfold rightP at h
 simp only [Bool.and_eq_true,decide_eq_true_eq,List.all_eq_true,List.mem_range] at h
 exact ⟨h.2.1,h.2.2.1,h.2.2.2⟩
theorem nOk_id {ss:List Ps} {ns:List Sn} {i:Nat} (h:nOk ss ns i = true):(wasN ns i).id.toNat < (ns.getD i default).id.toNat:=by
 unfold nOk at h
 simp only [Bool.and_eq_true,decide_eq_true_eq] at h
 exact h.1
/-- the current snapshot is the last one -/
theorem ids_up {t:Tb} (h:t.ok):∀ i j,i < j → j < t.ns.length → (t.ns.getD i default).id.toNat < (t.ns.getD j default).id.toNat:=by
 obtain ⟨_,h2,_⟩:=right_at h
 intro i j hij hj
 induction j with
 | zero => omega
 | succ j ih =>
   have h3:=nOk_id (h2 (j + 1) hj)
   rw [wasN_succ] at h3
   by_cases e:i = j
   ·rw [e];exact h3
   ·have:=ih (by omega) (by omega)
    omega
theorem wasN_last {ns:List Sn} (h:0 < ns.length):wasN ns ns.length = ns.getD (ns.length - 1) default:=by unfold wasN;rw [if_neg (by omega)]
theorem ok_cur {t:Tb} (h:t.ok):t.cur.toNat = (wasN t.ns t.ns.length).id.toNat:=(right_at h).2.2
theorem ok_pos {t:Tb} (h:t.ok) {i:Nat} (hi:i < t.ns.length):0 < (t.ns.getD i default).id.toNat:=by
 have:=nOk_id ((right_at h).2.1 i hi)
 omega
theorem now_last {t:Tb} (h:t.ok):t.now = wasN t.ns t.ns.length:=by
 have hc:=ok_cur h
 rcases Nat.eq_zero_or_pos t.ns.length with h0 | h0
 ·have hw:wasN t.ns t.ns.length = default:=by unfold wasN;rw [if_pos h0]
  rw [hw] at hc ⊢
  have hn:t.nowI = -1:=by
   unfold Tb.nowI
   rw [if_pos (show t.cur.toNat = 0 from hc)]
  unfold Tb.now
  rw [hn]
  rfl
 ·have hw:=wasN_last h0
  have hp:=ok_pos h (show t.ns.length - 1 < t.ns.length by omega)
  rw [hw] at hc ⊢
  have hi:idAt t.ns t.cur = ((t.ns.length - 1:Nat):Int):=by
   unfold idAt
   refine ixA_hit (show t.ns.length - 1 < t.ns.length by omega) ?_ fun j hj => ?_
   ·rw [hc];simp
   ·have:=ids_up h j (t.ns.length - 1) hj (by omega)
    rw [hc,beq_eq_false_iff_ne]
    omega
  have hn:t.nowI = ((t.ns.length - 1:Nat):Int):=by
   unfold Tb.nowI
   rw [if_neg (by omega),hi]
  unfold Tb.now
  rw [hn,if_pos (Int.natCast_nonneg _)]
  rfl
/-- a table of n snapshots, in a store that has what it needs -/
structure GoodT (s:So) (t:Tb) (n:Nat):Prop where
 ok:t.ok
 ss:t.ss = [(1,two)]
 len:t.ns.length = n
 id:t.now.id.toNat = n
 seq:t.now.seq.toNat = n
 off:t.now.off.toNat = n
 tim:t.now.tim.toNat = 0
 sch:t.now.sch.toNat ≤ 1
 ms:∀ x ∈ t.now.ms,mget s.m x = some ⟨wrES [],false⟩
theorem GoodT.cell {s:So} {t:Tb} {n:Nat} (h:GoodT s t n) (nm:ByteArray):GoodT { s with cell:=nm } t n:=⟨h.ok,h.ss,h.len,h.id,h.seq,h.off,h.tim,h.sch,h.ms⟩
theorem right_push {ss:List Ps} {ns:List Sn} {cur:Nat} {p:Sn} (h:rightP ss ns cur = true) (hl:ns.length < 32) (h1:(wasN ns ns.length).id.toNat < p.id.toNat) (h2:p.id.toNat ≤ 1073741824) (h3:p.par.toNat < p.id.toNat) (h4:p.seq.toNat ≤ 1073741824 ∧ p.off.toNat ≤ 1073741824 ∧ p.tim.toNat ≤ 1073741824)
 (h5:(wasN ns ns.length).seq.toNat ≤ p.seq.toNat) (h6:(wasN ns ns.length).off.toNat ≤ p.off.toNat) (h7:(wasN ns ns.length).tim.toNat ≤ p.tim.toNat) (h8:(wasN ns ns.length).sch.toNat ≤ p.sch.toNat) (h9:namesOk p.ms = true) (h10:hasSch ss p.sch = true) :
 rightP ss (ns ++ [p]) p.id.toNat = true:=by
 obtain ⟨a,b,_⟩:=right_at h
 obtain ⟨⟨l1,l2,_⟩,_⟩:=right_has h
 have hlen:(ns ++ [p]).length = ns.length + 1:=by simp
 have hget:∀ j,j < ns.length → (ns ++ [p]).getD j default = ns.getD j default:=fun j hj => by rw [List.getD_eq_getElem?_getD,List.getElem?_append_left hj, ← List.getD_eq_getElem?_getD]
 have hlast:(ns ++ [p]).getD ns.length default = p:=by rw [List.getD_eq_getElem?_getD,List.getElem?_append_right (Nat.le_refl _)];simp
 have hwas:∀ j,j ≤ ns.length → wasN (ns ++ [p]) j = wasN ns j:=fun j hj => by
  unfold wasN
  split
  ·rfl
  ·exact hget _ (by omega)
 rw [right_all ⟨l1,l2,by omega⟩ a (fun j hj => ?_)]
 ·rw [hlen,wasN_succ,hlast]
  simp
 ·by_cases e:j < ns.length
  ·have hb:=b j e
   unfold nOk at hb ⊢
   rw [hget j e,hwas j (by omega)]
   exact hb
  ·obtain rfl:j = ns.length:=by omega
   unfold nOk
   rw [hlast,hwas _ (Nat.le_refl _)]
   simp only [Bool.and_eq_true,decide_eq_true_eq]
   exact ⟨h1,h2,h3,h4,h5,h6,h7,h8,h9,h10⟩
theorem wrS_le {ss:List Ps} {ns:List Sn} {cur:Nat} (h:rightP ss ns cur = true):(wrS ss ns).length ≤ 20000:=by
 obtain ⟨⟨_,h1,h2⟩,h3,h4⟩:=right_has h
 have a:=packs_le h3
 have b:=snBs_le h4
 have c:=put_le10' ss.length (by omega)
 have d:=put_le10' ns.length (by omega)
 have e:(wrS ss ns).length = (wrT ss ns).length + 4:=by
  unfold wrS seal_
  rw [List.length_append]
  rfl
 have f:(wrT ss ns).length = 3 + ((Var.put ss.length).length + ((packs ss).length + ((Var.put ns.length).length + (snBs ns).length))):=by
  simp [wrT,wr1,wr0,tf1]
  omega
 omega
theorem wrT_head (ss:List Ps) (ns:List Sn):¬ ((wrT ss ns).length < 3 ∨ (wrT ss ns).take 3 ≠ tf1):=by
 simp [wrT,wr1,wr0,tf1]
theorem tbOpen_wr {t:Tb} (h:t.ok):tbOpen (wrS t.ss t.ns) = (t,0):=by
 have h1:open_ (wrS t.ss t.ns) = some (wrT t.ss t.ns):=open_seal _
 have ho:opn ((wrT t.ss t.ns).drop 3) = (t.ss,t.ns,false):=opn_wr h
 have hhd:=wrT_head t.ss t.ns
 obtain ⟨l,hl⟩:∃ l,wrS t.ss t.ns = l:=⟨_,rfl⟩
 obtain ⟨u,hu⟩:∃ u,wrT t.ss t.ns = u:=⟨_,rfl⟩
 rw [hl,hu] at h1
 rw [hu] at ho hhd
 rw [hl]
 have hb:bodyOf l = u:=by unfold bodyOf;rw [h1];rfl
 have hc:=ok_cur h
 have hcu:curU t.ns = t.cur:=UInt64.toNat_inj.1 hc.symm
 have hsome:(open_ l).isSome = true:=by rw [h1];rfl
 have he:oErr l = 0:=by
  refine oErr_ok (ss:=t.ss) (ns:=t.ns) (bad:=false) hsome (by rw [hb];exact hhd) (by rw [hb];exact ho) ?_
  rintro (q | q | q)
  ·cases q
  ·have h':rightP t.ss t.ns t.cur.toNat = true:=h
   have e:curOf t.ns = t.cur.toNat:=hc.symm
   rw [e,h'] at q
   cases q
  ·exact q hl
 have e1:(opn ((bodyOf l).drop 3)).1 = t.ss:=by rw [hb,ho]
 have e2:(opn ((bodyOf l).drop 3)).2.1 = t.ns:=by rw [hb,ho]
 unfold tbOpen
 rw [if_pos he,e1,e2,hcu]
end Go.Proofs.YtpfofefecamkfaaGreatDoor
