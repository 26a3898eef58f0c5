/- PLAIN: what a catalog commits in a store with room enough. No statement of the seat is proved here; no condition. -/
import Derived.Test.YtpfofefecamkfaaGreatDoorCtM
namespace Go.Proofs.YtpfofefecamkfaaGreatDoor
open Go.RowKit

theorem opE_wr {l:List En} (h:errE l = 0):opE (wrES l) = (0,l):=by
 have h1:open_ (wrES l) = some (wrE l):=open_seal _
 have he:=ents_wrE h
 rw [opE_good h1 (by simp [wrE,mf1]) (by rw [he];simp) (by rw [he];exact ⟨h,rfl⟩),he]
theorem errE_nil:errE [] = 0:=by decide +kernel
theorem get_has {s:So} (hd:s.dead = false) {nm:ByteArray} {bs:List UInt8} {lo:Bool} (h:mget s.m nm = some ⟨bs,lo⟩):s.get nm = (bs,0):=by unfold So.get;rw [if_neg (by rw [hd];simp),h]
theorem ents_nil {s:So} (hd:s.dead = false):∀ (ms:List ByteArray) (acc:List (List En)),(∀ x ∈ ms,mget s.m x = some ⟨wrES [],false⟩) → s.ents ms acc = (acc ++ List.replicate ms.length [],0)
 | [],acc,_ => by simp [So.ents]
 | nm :: r,acc,h => by
   have hg:=get_has hd (h nm (List.mem_cons_self ..))
   rw [ents_on (by rw [hg]) (by rw [hg];show (opE (wrES [])).1 = 0;rw [opE_wr errE_nil]),hg,ents_nil hd r _ fun x hx => h x (List.mem_cons_of_mem _ hx)]
   show (_ ++ [(opE (wrES [])).2] ++ _,0) = _
   rw [opE_wr errE_nil,List.append_assoc,List.length_cons,List.replicate_succ]
   rfl
theorem merge_nil (n:Nat):mergeE (List.replicate n []) = []:=by
 unfold mergeE
 have:(List.replicate n ([]:List En)).flatten = []:=by simp
 rw [this]
 rfl
theorem entries_nil {s:So} (hd:s.dead = false) {ms:List ByteArray} (h:∀ x ∈ ms,mget s.m x = some ⟨wrES [],false⟩):s.entries ms = ([],0):=by
 rw [entries_on (L:=List.replicate ms.length []) (by rw [ents_nil hd ms [] h];rfl),merge_nil]
theorem namesOk_snoc {l:List ByteArray} {x:ByteArray} (h:namesOk l = true) (hl:l.length < 8) (hp:pathOk x = true) (hx:∀ y ∈ l,y ≠ x):namesOk (l ++ [x]) = true:=by
 unfold namesOk at h ⊢
 simp only [Bool.and_eq_true,decide_eq_true_eq,List.all_eq_true,List.mem_range,List.length_append,List.length_singleton,Bool.not_eq_true'] at h ⊢
 refine ⟨by omega,fun i hi => ?_⟩
 by_cases e:i < l.length
 ·have:=h.2 i e
  rw [List.getD_eq_getElem?_getD,List.getElem?_append_left e, ← List.getD_eq_getElem?_getD,List.take_append_of_le_length (by omega)]
  exact this
 ·obtain rfl:i = l.length:=by omega
  rw [List.getD_eq_getElem?_getD,List.getElem?_append_right (Nat.le_refl _),Nat.sub_self,List.take_append_of_le_length (Nat.le_refl _),List.take_length]
  refine ⟨hp,?_⟩
  rw [← Bool.not_eq_true,List.any_eq_true]
  rintro ⟨y,hy,q⟩
  exact hx y hy (bytes_same (by simpa using q)).symm
/-- a draft of nothing -/
def dOff (o:UInt64):Dr:=⟨false,[],[],[],o,0⟩
theorem u64_eq {x:UInt64} {n:Nat} (h:x.toNat = n) (hn:n < 1000):(x + 1).toNat = n + 1:=by
 rw [UInt64.toNat_add]
 have:(1:UInt64).toNat = 1:=rfl
 omega
theorem commit_good {s:So} {t:Tb} {m k:Nat} {o:UInt64} (hg:GoodT s t m) (hr:Roomy s k) (hk:k < 180) (hm:m < 30) (ho:m < o.toNat) (ho2:o.toNat ≤ 1000) :
 ∃ sn:Sn,chCommit (dOff o) s t = ⟨s.sync1 (stName 109 (mostOf (namesM s.m) + 1)) (wrES []),0,⟨t.ss,t.ns ++ [sn],sn.id⟩,sn⟩ ∧ rightP t.ss (t.ns ++ [sn]) sn.id.toNat = true ∧
  sn.id.toNat = m + 1 ∧ sn.seq.toNat = m + 1 ∧ sn.off = o ∧ sn.tim.toNat = 0 ∧ sn.sch = 1 ∧ ∀ x ∈ sn.ms,x = stName 109 (mostOf (namesM s.m) + 1) ∨ x ∈ t.now.ms:=by
 have hw:wider t (dOff o).fs = (t,0):=rfl
 have hls:t.lastS = (1,two):=by unfold Tb.lastS;rw [hg.ss];rfl
 have hd0:draft0 t (dOff o) = 0:=by
  unfold draft0
  rw [if_pos (show (dOff o).rew = false from rfl),if_neg (show ¬ 0 < (dOff o).drops.length from Nat.lt_irrefl 0),if_neg (show ¬ (dOff o).off.toNat ≤ t.now.off.toNat by rw [hg.off];exact Nat.not_le.2 ho)]
 have hen:=entries_nil hr.firm.calm.dead hg.ms
 have hid:=u64_eq hg.id (by omega)
 have hsq:=u64_eq hg.seq (by omega)
 have hp:=sn1_parts t.now (dOff o) 1
 have hq:(sn1 t.now (dOff o) 1).seq = t.now.seq + 1 ∧ (sn1 t.now (dOff o) 1).off = o:=⟨rfl,rfl⟩
 have htim:(if (dOff o).tim.toNat < t.now.tim.toNat then t.now.tim else (dOff o).tim).toNat = 0:=by rw [if_neg (by rw [hg.tim];omega)];rfl
 obtain ⟨nm,hnm⟩:∃ nm,nm = stName 109 (mostOf (namesM s.m) + 1):=⟨_,rfl⟩
 have hst:=hr.stage (by omega) (.inl rfl) (bs:=wrES []) (c:=109) (by decide +kernel)
 have hnew:=hr.fresh (by omega) (c:=109) (.inl rfl)
 have hpo:=(num_at (k:=mostOf (namesM s.m)) (by have:=hr.most;omega) (c:=109) (.inl rfl)).2
 rw [← hnm] at hst hnew hpo ⊢
 have hno:=hg.ok.now_ms
 have hnames:namesOk t.now.ms = true:=by
  rw [now_last hg.ok]
  unfold wasN
  split
  ·rfl
  ·have hl:t.ns.length - 1 < t.ns.length:=by omega
   rw [List.getD_eq_getElem?_getD,List.getElem?_eq_getElem hl]
   exact (right_has hg.ok).2.2 _ (List.getElem_mem hl)
 have hdr:∃ ms,(∀ x ∈ ms,x ∈ t.now.ms) ∧ namesOk ms = true ∧ ms.length < 8 ∧ s.draft t (dOff o) 1 = (0, { sn1 t.now (dOff o) 1 with ms:=ms },[]):=by
  have hall:((dOff o).drops.all fun n => hasEn [] n) = true:=rfl
  have h2:¬ ((dOff o).rew = true ∧ ((dOff o).adds.any fun x => decide (t.now.seq.toNat < x.seq.toNat)) = true):=fun q => Bool.noConfusion q.1
  have h3:¬ 1073741824 < (sn1 t.now (dOff o) 1).id.toNat:=by rw [hp.1,hid];omega
  have h4:¬ 64 < (all1 t.now (dOff o) []).length:=show ¬ 64 < 0 from Nat.not_lt_zero _
  rw [draft_on hd0 hen]
  by_cases h8:t.now.ms.length < 8
  ·exact ⟨t.now.ms,fun _ h => h,hnames,h8,(dr1_few hall h2 h3 h4 ⟨rfl,h8⟩).trans rfl⟩
  ·refine ⟨[],fun _ h => (List.not_mem_nil h).elim,rfl,by decide,(dr1_all hall h2 h3 h4 (fun q => h8 q.2)).trans ?_⟩
   have e:sn1 t.now (dOff o) 1 = { sn1 t.now (dOff o) 1 with ms:=[] }:=by rw [← hp.2.2.2.2]
   rw [← e]
   rfl
 obtain ⟨ms,hms1,hms2,hms3,hdr⟩:=hdr
 have hne:∀ y ∈ ms,y ≠ nm:=fun y hy => has_new hnew (hg.ms y (hms1 y hy))
 obtain ⟨sn,hsn⟩:∃ sn:Sn, { sn1 t.now (dOff o) 1 with ms:=ms ++ [nm] } = sn:=⟨_,rfl⟩
 have f1:sn.id.toNat = m + 1:=by rw [← hsn];show (sn1 t.now (dOff o) 1).id.toNat = _;rw [hp.1,hid]
 have f2:sn.par.toNat = m:=by rw [← hsn];show (sn1 t.now (dOff o) 1).par.toNat = _;rw [hp.2.1,hg.id]
 have f3:sn.seq.toNat = m + 1:=by rw [← hsn];show (sn1 t.now (dOff o) 1).seq.toNat = _;rw [hq.1,hsq]
 have f4:sn.off = o:=by rw [← hsn];exact hq.2
 have f5:sn.tim.toNat = 0:=by rw [← hsn];show (sn1 t.now (dOff o) 1).tim.toNat = _;rw [hp.2.2.1,htim]
 have f6:sn.sch = 1:=by rw [← hsn];exact hp.2.2.2.1
 have f7:sn.ms = ms ++ [nm]:=by rw [← hsn]
 have hnl:=now_last hg.ok
 have hright:rightP t.ss (t.ns ++ [sn]) sn.id.toNat = true:=by
  refine right_push hg.ok (by rw [hg.len];omega) ?_ (by omega) (by omega) ⟨by omega,by rw [f4];omega,by omega⟩ ?_ ?_ ?_ ?_ (by rw [f7];exact namesOk_snoc hms2 hms3 hpo hne) (by rw [hg.ss,f6];rfl)
  ·rw [← hnl,hg.id];omega
  ·rw [← hnl,hg.seq];omega
  ·rw [← hnl,hg.off,f4];omega
  ·rw [← hnl,hg.tim];omega
  ·rw [← hnl,f6];exact hg.sch
 have hpe:pushErr t.ss t.ns sn = 0:=by unfold pushErr;rw [if_neg (by rw [hg.len];omega),if_pos hright]
 refine ⟨sn,?_,hright,f1,f3,f4,f5,f6,fun x hx => ?_⟩
 ·have a1:=com_b (g:=(0, { sn1 t.now (dOff o) 1 with ms:=ms },[])) hw (by rw [hls];exact hdr)
  have a2:=com2_c (s:=s) (u:=t) (g:=(0, { sn1 t.now (dOff o) 1 with ms:=ms },[])) rfl errE_nil hst
  have a3:=com3_c (s:=s) (u:=t) (sn := { sn1 t.now (dOff o) 1 with ms:=ms }) (st:=(s.sync1 nm (wrES []),nm,0)) rfl hsn hpe
  exact a1.trans (a2.trans a3)
 ·rw [f7] at hx
  rcases List.mem_append.1 hx with q | q
  ·exact .inr (hms1 x q)
  ·exact .inl (List.mem_singleton.1 q)
end Go.Proofs.YtpfofefecamkfaaGreatDoor
