/- WHAT THE LAWS OF LAYER 15 WANT: drafts' ops, lists of names. No statement of the seat is proved here; no condition. -/
import Derived.Test.YtpfofefecamkfaaGreatDoorCtAl
import Derived.Test.YtpfofefecamkfaaGreatDoorCtFa
namespace Go.Proofs.YtpfofefecamkfaaGreatDoor
open Go.RowKit

def Dl.op (x:Dl):Op15:=⟨0,false,x.d,⟨#[]⟩,0,[],[],0,[],x.al,x.fA,x.fc,x.aA,x.ac,x.dA,x.dc,none,0,none,0,none,0⟩
theorem Mst.lowR {w w':World} {sz n c:Nat} {A:Option Addr} {xs:List Value} (m:Mst (fun k => w.heap.size ≤ k) w w') (h:Rd w w.heap.size sz A n c xs):RdQ w' (fun k => k < w.heap.size) sz A n c xs :=
 m.rdq (.ofRd h (Nat.le_refl _) fun _ hk => hk) fun k hk q => by omega
theorem Mst.lowE {w w':World} {c:Nat} {A:Option Addr} {l:List El} (m:Mst (fun k => w.heap.size ≤ k) w w') (h:EnR w w.heap.size A c l):EnQ w' (fun k => k < w.heap.size) A c l :=
 (EnQ.ofEn h fun _ hk => hk).mst m fun k hk q => by omega
theorem DlR.opq {w w':World} {x:Dl} (h:DlR w x) (m:Mst (fun k => w.heap.size ≤ k) w w'):OpQ w' (fun k => k < w.heap.size) x.op :=
 ⟨m.lowR h.f,m.lowE h.a,h.e,m.lowR h.dr,.nil _ _ _,.nil _ _ _,.nil _ _ _,(show (-9223372036854775808:Int) ≤ 0 by decide),(show (0:Int) ≤ 9223372036854775807 by decide),(show (0:Nat) ≤ 9223372036854775807 by decide)⟩
theorem DlR.drq {w w':World} {x:Dl} (h:DlR w x) (m:Mst (fun k => w.heap.size ≤ k) w w') {M:Nat → Prop} (hM:∀ k,M k → w.heap.size ≤ k) (a:x.al.length ≤ 1000000) (b:x.d.drops.length ≤ 1000000):DrQ w' (fun k => ¬ M k) x.d x.fA x.fc x.aA x.ac x.al x.dA x.dc :=
 have hi:∀ k,k < w.heap.size → k < w'.heap.size → ¬ M k:=fun k hk _ q => by have:=hM k q;omega
 ⟨(m.lowR h.f).imp hi,(m.lowE h.a).imp hi,h.e,(m.lowR h.dr).imp hi,a,b⟩
theorem list_q {w w':World} {l:List ByteArray} {A:Option Addr} {k:Nat} (h:Rd w' w'.heap.size 1 A l.length k (strsV l)) (hn:∀ b,b < w.heap.size → some b ≠ (Value.slice A l.length k).ownBlock):RdQ w' (fun k => w.heap.size ≤ k) 1 A l.length k (strsV l) :=
 ⟨h,fun h0 => by
  obtain ⟨b,off,e,hb,_⟩:=h.at_ h0
  refine ⟨b,off,e,?_⟩
  rcases Nat.lt_or_ge b w.heap.size with q | q
  ·exact absurd (by rw [e];rfl) (hn b q)
  ·exact q⟩
theorem txEq_refl (l:List ByteArray):txEq l l = true:=by
 unfold txEq
 simp
theorem Rd.dl {w:World} {B n c:Nat} {A:Option Addr} {l:List Dl} (h:Rd w B 6 A n c (dlsV l)) {i:Nat} (hi:i < l.length) {x:Dl} (hx:l.getD i default = x):∃ b off,A = some ⟨b,off,none⟩ ∧ b < B ∧ w.cell? ⟨b,off + i * 6,none⟩ = some (.bool x.d.rew) ∧ w.cell? ⟨b,off + i * 6 + 1,none⟩ = some (.slice x.fA x.d.fs.length x.fc) ∧ w.cell? ⟨b,off + i * 6 + 2,none⟩ = some (.slice x.aA x.al.length x.ac) ∧ w.cell? ⟨b,off + i * 6 + 3,none⟩ = some (.slice x.dA x.d.drops.length x.dc) ∧ w.cell? ⟨b,off + i * 6 + 4,none⟩ = some (.int .u64 (x.d.off.toNat:Int)) ∧ w.cell? ⟨b,off + i * 6 + 5,none⟩ = some (.int .u64 (x.d.tim.toNat:Int)):=by
 obtain ⟨b,off,e,hb,hc⟩:=Rd.el dlV 6 dlV_length h hi (by omega)
 rw [hx] at hc
 exact ⟨b,off,e,hb,hc 0 _ rfl,hc 1 _ rfl,hc 2 _ rfl,hc 3 _ rfl,hc 4 _ rfl,hc 5 _ rfl⟩
/-- the forms of what a commit tells -/
theorem cm_form {M:Nat → Prop} {w w':World} {sb mb cb K:Nat} {r:Tr} {e:Ending} (h:CmEnd M w sb mb cb K r e w') :
 ∃ (i0 i1 i2 i3 i4:UInt64) (i5:UInt32) (A:Option Addr) (n c:Nat),e = .returned (.tuple #[.agg #[.int .u64 (i0.toNat:Int),.int .u64 (i1.toNat:Int),.int .u64 (i2.toNat:Int),.int .u64 (i3.toNat:Int),.int .u64 (i4.toNat:Int),.int .u32 (i5.toNat:Int),.slice A n c],.int .i64 (r.e:Int)]) ∧ Env M w' sb mb K r.s ∧ CatR w' (fun k => ¬ M k) cb sb r.c ∧ r.c.t.ok ∧ Mst (Mc sb mb cb) w w' ∧ (r.e = 0 → i0 = r.n.id):=by
 by_cases h0:r.e = 0
 ·obtain ⟨v0,v1,v2,v3,v4,v5,v6,rfl,hE,hC,hok,hm,_,hg⟩:=h
  obtain ⟨A,c,he,_⟩:=hg h0
  rw [he]
  exact ⟨_,_,_,_,_,_,_,_,_,rfl,hE,hC,hok,hm,fun _ => rfl⟩
 ·obtain ⟨rfl,hE,hC,hok,hm⟩:=cm_err h rfl rfl h0
  exact ⟨0,0,0,0,0,0,none,0,0,rfl,hE,hC,hok,hm,fun q => absurd q h0⟩
end Go.Proofs.YtpfofefecamkfaaGreatDoor
