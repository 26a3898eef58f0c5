/- THE WALKS of the draft's closures. No statement of the seat is proved here; no condition but sizes. -/
import Derived.Test.YtpfofefecamkfaaGreatDoorCtW
import Derived.Test.YtpfofefecamkfaaGreatDoorCtPl
namespace Go.Proofs.YtpfofefecamkfaaGreatDoor
set_option maxRecDepth 100000
open Go.RowKit

theorem enter96:∀ args w,(callFunc 96 args).run Tryz.prog w = .ok (.enter 96 args) w:=enters_of Tryz.func96 (by kernel_rfl) rfl
theorem enter97:∀ args w,(callFunc 97 args).run Tryz.prog w = .ok (.enter 97 args) w:=enters_of Tryz.func97 (by kernel_rfl) rfl
theorem enter99:∀ args w,(callFunc 99 args).run Tryz.prog w = .ok (.enter 99 args) w:=enters_of Tryz.func99 (by kernel_rfl) rfl
theorem predNm (w:World) (b:Nat) (s:ByteArray) (hb0:b < w.heap.size) (hc:w.cell? ⟨b,0,none⟩ = some (.string s)) :
 PredEl w 96 #[.pointer (some ⟨b,0,none⟩)] (fun x => x.p.name.toList == s.toList):=fun W f hb => by
 have h1:=(hb.cell (p:=⟨b,0,none⟩) hb0).trans hc
 have hBW:b < W.heap.size:=Nat.lt_of_lt_of_le hb0 hb.size
 have hne:b ≠ W.heap.size:=Nat.ne_of_lt hBW
 show Calls Tryz.prog 96 #[.agg #[.string f.p.name,.bool f.p.keys,.int .u64 (f.p.seq.toNat:Int),.int .i64 f.p.rows.toInt,.int .u32 (f.p.sch.toNat:Int),.slice f.A f.p.stats.length f.c],.pointer (some ⟨b,0,none⟩)] W _
 clear hc
 go_enter Tryz.func96,Tryz.ntmps96
 go_wp2_with fail
 go_ret
 exact ⟨rfl,hb.alloc hb.size _⟩
theorem predSeq (w:World) (b:Nat) (q:UInt64) (hb0:b < w.heap.size) (hc:w.cell? ⟨b,2,none⟩ = some (.int .u64 (q.toNat:Int))) :
 PredEl w 97 #[.pointer (some ⟨b,0,none⟩)] (fun x => decide (q.toNat < x.p.seq.toNat)):=fun W f hb => by
 have h1:=(hb.cell (p:=⟨b,2,none⟩) hb0).trans hc
 have hBW:b < W.heap.size:=Nat.lt_of_lt_of_le hb0 hb.size
 have hne:b ≠ W.heap.size:=Nat.ne_of_lt hBW
 show Calls Tryz.prog 97 #[.agg #[.string f.p.name,.bool f.p.keys,.int .u64 (f.p.seq.toNat:Int),.int .i64 f.p.rows.toInt,.int .u32 (f.p.sch.toNat:Int),.slice f.A f.p.stats.length f.c],.pointer (some ⟨b,0,none⟩)] W _
 have ht:decide ((q.toNat:Int) < (f.p.seq.toNat:Int)) = decide (q.toNat < f.p.seq.toNat):=decide_eq_decide.2 (by omega)
 clear hc
 go_enter Tryz.func97,Tryz.ntmps97
 go_wp2_with fail
 go_ret
 exact ⟨by simp,hb.alloc hb.size _⟩
theorem predDropE (w:World) (b g B n k:Nat) (A:Option Addr) (l:List ByteArray) (hb0:b < w.heap.size) (hne:b ≠ g) (hc:w.cell? ⟨b,3,none⟩ = some (.slice A n k)) (hr:∀ W,Oth g w W → Rd W B 1 A n k (strsV l)) (hmax:l.length ≤ 1000000) :
 PredOEl w g 99 #[.pointer (some ⟨b,0,none⟩)] (fun x => nmIn l x.p.name):=fun W f hb => by
 have h1:=(hb.cell (p:=⟨b,3,none⟩) hb0 hne).trans hc
 have hBW:b < W.heap.size:=Nat.lt_of_lt_of_le hb0 hb.size
 have hne2:b ≠ W.heap.size:=Nat.ne_of_lt hBW
 show Calls Tryz.prog 99 #[.agg #[.string f.p.name,.bool f.p.keys,.int .u64 (f.p.seq.toNat:Int),.int .i64 f.p.rows.toInt,.int .u32 (f.p.sch.toNat:Int),.slice f.A f.p.stats.length f.c],.pointer (some ⟨b,0,none⟩)] W _
 have hbA:=(Below.refl W.heap.size W).alloc (Nat.le_refl _) (.cells #[.string f.p.name,.bool f.p.keys,.int .u64 (f.p.seq.toNat:Int),.int .i64 f.p.rows.toInt,.int .u32 (f.p.sch.toNat:Int),.slice f.A f.p.stats.length f.c] 97)
 have hcon:=containsT _ _ _ _ _ _ (hr _ (hb.alloc (.cells #[.string f.p.name,.bool f.p.keys,.int .u64 (f.p.seq.toNat:Int),.int .i64 f.p.rows.toInt,.int .u32 (f.p.sch.toNat:Int),.slice f.A f.p.stats.length f.c] 97))) hmax f.p.name
 clear hc hr
 go_enter Tryz.func99,Tryz.ntmps99
 go_wp2_with fail
 refine hcon.mono ?_
 rintro e w' ⟨rfl,rfl⟩
 go_wp2_with fail
 go_ret
 exact ⟨rfl,hbA⟩
end Go.Proofs.YtpfofefecamkfaaGreatDoor
