/- PLAIN: two catalogs of a new store. No statement of the seat is proved here; no condition. -/
import Derived.Test.YtpfofefecamkfaaGreatDoorCtLw
import Derived.Test.YtpfofefecamkfaaGreatDoorCtY
namespace Go.Proofs.YtpfofefecamkfaaGreatDoor
open Go.RowKit

theorem roomy_new:Roomy (So.new 4000000) 0:=⟨firm_new _,rfl,by decide,by decide +kernel⟩
theorem good_zero (s:So):GoodT s (tb1 (1,two)) 0 :=
 ⟨by show rightP _ _ _ = true;decide +kernel,rfl,rfl,by decide +kernel,by decide +kernel,by decide +kernel,by decide +kernel,by decide +kernel,fun x hx => by
  have h:(tb1 (1,two)).now.ms = []:=by decide +kernel
  rw [h] at hx
  exact (List.not_mem_nil hx).elim⟩
/-- both opened -/
theorem others_plan:∃ (s:So) (c:Ct),(So.new 4000000).openC (1,two) = (s,some c,0) ∧ s.openC (1,two) = (s,some c,0) ∧ Inv s (tb1 (1,two)) 0 1 ∧ Kn s (tb1 (1,two)) 0 c:=by
 have hr:=roomy_new
 have hlen:(wrS [((1:UInt32),two)] []).length ≤ 20000:=by decide +kernel
 have hst:=hr.stage (by omega) (.inr rfl) (bs:=wrS [(1,two)] []) (c:=116) hlen
 have hnx:=hr.next (by omega) (.inr rfl) (bs:=wrS [(1,two)] []) (c:=116) hlen
 have hpo:=(num_at (k:=mostOf (namesM (So.new 4000000).m)) (by have:=hr.most;omega) (c:=116) (.inr rfl)).2
 generalize stName 116 (mostOf (namesM (So.new 4000000).m) + 1) = nm at *
 obtain ⟨s1,hs1⟩:∃ s1,(So.new 4000000).sync1 nm (wrS [(1,two)] []) = s1:=⟨_,rfl⟩
 have hcell:s1.cell = no_:=by rw [← hs1];rfl
 have hget:mget s1.m nm = some ⟨wrS [(1,two)] [],false⟩:=by rw [← hs1];exact sync1_new
 rw [hs1] at hst hnx
 have hsw:=swap_on hnx.firm.calm hcell hpo
 have hck:check 1 two = 0:=by decide +kernel
 have hne:nm.size ≠ 0:=fun q => by
  unfold pathOk at hpo
  simp only [Bool.and_eq_true,decide_eq_true_eq] at hpo
  have:=hpo.1.1
  omega
 have hI:Inv { s1 with cell:=nm } (tb1 (1,two)) 0 1:=⟨hnx.cell nm,good_zero _,hget⟩
 have hK:Kn { s1 with cell:=nm } (tb1 (1,two)) 0 ⟨tb1 (1,two),nm⟩:=kn_fresh hI
 refine ⟨{ s1 with cell:=nm },⟨tb1 (1,two),nm⟩,?_,?_,hI,hK⟩
 ·have hb:(So.new 4000000).begin (1,two) = ({ s1 with cell:=nm },⟨tb1 (1,two),nm⟩,0):=by
   unfold So.begin
   rw [if_neg (by decide +kernel),hst]
   dsimp only
   rw [if_pos rfl,hsw]
   unfold So.begin2
   rw [if_pos rfl]
  rw [open_begin (p:=(1,two)) hck rfl rfl hb]
  exact open3_ok rfl
 ·have hrf:=refresh_on (c:=noC) hI
  rw [open_old (p:=(1,two)) hck hI.room.firm.calm.dead hne hrf]
  exact open3_ok rfl
theorem cur_is {s:So} {t:Tb} {n:Nat} (h:GoodT s t n):t.cur.toNat = n:=by
 rw [ok_cur h.ok, ← now_last h.ok,h.id]
theorem inv_cur {s:So} {t:Tb} {n k:Nat} (h:Inv s t n k):t.cur.toNat = n:=cur_is h.good
theorem field_cur (a b c:Value) (W:World):(Instr.field 39 (.agg #[a,b,c]) 2).run Tryz.prog W = .ok c W:=by kernel_rfl
end Go.Proofs.YtpfofefecamkfaaGreatDoor
