/- THE WALK of the catalog's Commit: what it publishes. No statement of the seat is proved here; no condition but sizes. -/
import Derived.Test.YtpfofefecamkfaaGreatDoorCtOp
import Derived.Test.YtpfofefecamkfaaGreatDoorCtH
namespace Go.Proofs.YtpfofefecamkfaaGreatDoor
open Go.RowKit

theorem DrQ.low {w w':World} {P:Nat → Prop} {d:Dr} {fA aA dA:Option Addr} {fc ac dc:Nat} {al:List El} (h:DrQ w P d fA fc aA ac al dA dc) (hb:Below w.heap.size w w'):DrQ w' P d fA fc aA ac al dA dc:=⟨h.f.low hb,h.a.low hb,h.e,h.dr.low hb,h.an,h.dn⟩
theorem DrQ.mst {w w':World} {M P:Nat → Prop} {d:Dr} {fA aA dA:Option Addr} {fc ac dc:Nat} {al:List El} (h:DrQ w P d fA fc aA ac al dA dc) (m:Mst M w w') (hP:∀ k,P k → ¬ M k):DrQ w' P d fA fc aA ac al dA dc:=⟨m.rdq h.f hP,h.a.mst m hP,h.e,m.rdq h.dr hP,h.an,h.dn⟩
theorem DrQ.imp {w:World} {P Q:Nat → Prop} {d:Dr} {fA aA dA:Option Addr} {fc ac dc:Nat} {al:List El} (h:DrQ w P d fA fc aA ac al dA dc) (hi:∀ k,P k → k < w.heap.size → Q k):DrQ w Q d fA fc aA ac al dA dc:=⟨h.f.imp hi,h.a.imp hi,h.e,h.dr.imp hi,h.an,h.dn⟩
theorem DrQ.add {M:Nat → Prop} {w w':World} {d:Dr} {fA aA dA:Option Addr} {fc ac dc:Nat} {al:List El} (h:DrQ w (fun k => ¬ M k) d fA fc aA ac al dA dc) (hb:Below w.heap.size w w') {b:Nat} (h1:w.heap.size ≤ b):DrQ w' (fun k => ¬ Ma M b k) d fA fc aA ac al dA dc :=
 (h.imp fun k hk hl q => q.elim hk fun e => by omega).low hb
theorem Mst.drop {My:Nat → Prop} {w w':World} {b:Nat} (h:Mst (Ma My b) w w') (hb:w.heap.size ≤ b):Mst My w w':=h.imp fun k hk q => q.elim id fun e => by omega
/-- a snapshot in a box of one's own -/
def SnJ (M:Nat → Prop) (bs:Nat) (e:Nat) (n:Sn) (W:World):Prop :=
 ∃ v0 v1 v2 v3 v4 v5 v6,BoxN W bs [v0,v1,v2,v3,v4,v5,v6] ∧ (e = 0 → ∃ mA mc,(#[v0,v1,v2,v3,v4,v5,v6]:Array Value) = #[.int .u64 (n.id.toNat:Int),.int .u64 (n.par.toNat:Int),.int .u64 (n.seq.toNat:Int),.int .u64 (n.off.toNat:Int),.int .u64 (n.tim.toNat:Int),.int .u32 (n.sch.toNat:Int),.slice mA n.ms.length mc] ∧ RdQ W (fun k => ¬ M k) 1 mA n.ms.length mc (strsV n.ms))
theorem SnJ.keep {M N:Nat → Prop} {bs e:Nat} {n:Sn} {W W':World} (h:SnJ M bs e n W) (m:Mst N W W') (hN:¬ N bs) (hP:∀ k,¬ M k → ¬ N k):SnJ M bs e n W':=by
 obtain ⟨v0,v1,v2,v3,v4,v5,v6,hb,h0⟩:=h
 refine ⟨v0,v1,v2,v3,v4,v5,v6,m.box hb hN,fun he => ?_⟩
 obtain ⟨mA,mc,e1,e2⟩:=h0 he
 exact ⟨mA,mc,e1,m.rdq e2 hP⟩
theorem SnJ.bad {M:Nat → Prop} {bs e:Nat} {n:Sn} {W:World} {v0 v1 v2 v3 v4 v5 v6:Value} (h:BoxN W bs [v0,v1,v2,v3,v4,v5,v6]) (h0:e ≠ 0):SnJ M bs e n W:=⟨_,_,_,_,_,_,_,h,fun q => absurd q h0⟩
theorem k7 {W:World} {b bs j:Nat} {v v0 v1 v2 v3 v4 v5 v6:Value} (h:W.cell? ⟨b,j,none⟩ = some v) (hne:b ≠ bs) (hlt:b < W.heap.size):(((((((W.setCell ⟨bs,0,none⟩ v0).setCell ⟨bs,1,none⟩ v1).setCell ⟨bs,2,none⟩ v2).setCell ⟨bs,3,none⟩ v3).setCell ⟨bs,4,none⟩ v4).setCell ⟨bs,5,none⟩ v5).setCell ⟨bs,6,none⟩ v6).cell? ⟨b,j,none⟩ = some v :=
 ((oth_set7b W bs v0 v1 v2 v3 v4 v5 v6).cell (p:=⟨b,j,none⟩) hlt hne).trans h
theorem SnJ.err {M:Nat → Prop} {bs e b er:Nat} {n n2:Sn} {W W':World} (h:SnJ M bs e n W) (o:Oth b W W') (hne:bs ≠ b) (h0:er ≠ 0):SnJ M bs er n2 W':=by
 obtain ⟨v0,v1,v2,v3,v4,v5,v6,hb,_⟩:=h
 exact SnJ.bad (hb.oth o hne) h0
/-- what a change leaves, with its result in block b -/
theorem chg_end {M My:Nat → Prop} {J:Nat → Sn → World → Prop} {w w':World} {sb mb K b:Nat} {h:Ch} {sA nA:Option Addr} {sc nc:Nat} {ss:List Sl} {ns:List Nl} (hT:TabQ w' (fun k => ¬ Ma M b k) sA sc ss nA nc ns) (e1:ss.map plS = h.t.ss) (e2:ns.map plN = h.t.ns)
 (hE:Env (Ma M b) w' sb mb K h.s) (m1:M sb) (m2:M mb) (hm:Mst (Ma My b) w w') (hb:w.heap.size ≤ b) (hJ:J h.e h.n w') :
 ChgEnd M My J w sb mb K h (.returned (.tuple #[.agg #[.slice sA (List.length ss) sc,.slice nA (List.length ns) nc,.int .u64 (h.t.cur.toNat:Int)],.int .i64 (h.e:Int)])) w' :=
 ⟨sA,sc,ss,nA,nc,ns,rfl,hT.imp fun _k hk _ q => hk (.inl q),e1,e2,hE.less m1 m2,hm.drop hb,hJ⟩
theorem chg_bad {M My:Nat → Prop} {J:Nat → Sn → World → Prop} {w w':World} {sb mb K b er:Nat} {s:So} {h:Ch} (hh:h = ⟨s,er,default,default⟩)
 (hE:Env (Ma M b) w' sb mb K s) (m1:M sb) (m2:M mb) (hm:Mst (Ma My b) w w') (hb:w.heap.size ≤ b) (hJ:J er default w') :
 ChgEnd M My J w sb mb K h (.returned (.tuple #[.agg #[.slice none 0 0,.slice none 0 0,.int .u64 0],.int .i64 (er:Int)])) w':=by
 subst hh
 exact chg_end (ss:=[]) (ns:=[]) (TabQ.nil _ _) rfl rfl hE m1 m2 hm hb hJ
end Go.Proofs.YtpfofefecamkfaaGreatDoor
