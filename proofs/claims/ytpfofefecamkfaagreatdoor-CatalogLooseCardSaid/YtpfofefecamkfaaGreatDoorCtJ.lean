/- THE WALK of the catalog's publish, over what the change does. No statement of the seat is proved here; no condition but sizes. -/
import Derived.Test.YtpfofefecamkfaaGreatDoorCtG
namespace Go.Proofs.YtpfofefecamkfaaGreatDoor
open Go.RowKit

/-- what a change of a table leaves -/
def ChgEnd (M My:Nat → Prop) (J:Nat → Sn → World → Prop) (w:World) (sb mb K:Nat) (h:Ch) (e:Ending) (w':World):Prop :=
 ∃ sA sc ss nA nc ns,e = .returned (.tuple #[.agg #[.slice sA (List.length ss) sc,.slice nA (List.length ns) nc,.int .u64 (h.t.cur.toNat:Int)],.int .i64 (h.e:Int)]) ∧ TabQ w' (fun k => ¬ M k) sA sc ss nA nc ns ∧ ss.map plS = h.t.ss ∧ ns.map plN = h.t.ns ∧ Env M w' sb mb K h.s ∧ Mst My w w' ∧ J h.e h.n w'
/-- what a publishing leaves -/
def PubEnd (M My:Nat → Prop) (J:Nat → Sn → World → Prop) (w:World) (sb mb cb K:Nat) (r:Tr) (e:Ending) (w':World):Prop :=
 e = .returned (.int .i64 (r.e:Int)) ∧ Env M w' sb mb K r.s ∧ CatR w' (fun k => ¬ M k) cb sb r.c ∧ r.c.t.ok ∧ Mst (fun k => My k ∨ k = cb) w w' ∧ ∃ e0 n0,J e0 n0 w' ∧ (r.e = 0 → e0 = 0 ∧ n0 = r.n)
theorem CatR.cells {w:World} {P:Nat → Prop} {cb sb:Nat} {c:Ct} (h:CatR w P cb sb c):∃ v1 v2 v3,BoxN w cb [.pointer (some ⟨sb,0,none⟩),v1,v2,v3,.string c.nm]:=by
 obtain ⟨sA,sc,ss,nA,nc,ns,hx,_⟩:=h
 exact ⟨_,_,_,hx⟩
end Go.Proofs.YtpfofefecamkfaaGreatDoor
