/- THE FRAME's ARGUMENTS: lists of bools, drafts, ops of the law's, opened to what the walks are told of them. No statement of the seat is proved here; no condition. -/
import Derived.Test.YtpfofefecamkfaaGreatDoorCtG
import Derived.Test.YtpfofefecamkfaaGreatDoorCtT
namespace Go.Proofs.YtpfofefecamkfaaGreatDoor
set_option maxRecDepth 100000
open Go.ChangeShapes Go.WideShapes Go.ChangeAt Go.RowKit Go.Deep Go.Joins

/-- a draft, with where its rows lie -/
structure Dl where
 d:Dr
 al:List El
 fA:Option Addr
 fc:Nat
 aA:Option Addr
 ac:Nat
 dA:Option Addr
 dc:Nat
instance:Inhabited Dl:=⟨⟨⟨false,[],[],[],0,0⟩,[],none,0,none,0,none,0⟩⟩
def dlV (o:Dl):List Value:=[.bool o.d.rew,.slice o.fA o.d.fs.length o.fc,.slice o.aA o.al.length o.ac,.slice o.dA o.d.drops.length o.dc,.int .u64 (o.d.off.toNat:Int),.int .u64 (o.d.tim.toNat:Int)]
theorem dlV_length (o:Dl):(dlV o).length = 6:=rfl
def dlsV (l:List Dl):List Value:=l.flatMap dlV
/-- its rows -/
structure DlR (w:World) (o:Dl):Prop where
 f:Rd w w.heap.size 4 o.fA o.d.fs.length o.fc (fdsV o.d.fs)
 a:EnR w w.heap.size o.aA o.ac o.al
 e:o.al.map El.p = o.d.adds
 dr:Rd w w.heap.size 1 o.dA o.d.drops.length o.dc (strsV o.d.drops)
theorem EnQ.ofEn {w:World} {P:Nat → Prop} {A:Option Addr} {c:Nat} {l:List El} (h:EnR w w.heap.size A c l) (hP:∀ k,k < w.heap.size → P k):EnQ w P A c l:=⟨.ofRd h.row (Nat.le_refl _) hP,fun x hx => .ofRd (h.ins x hx) (Nat.le_refl _) hP⟩
section
variable {H:Type} {enc:TypeId × Value → H} {w:World} {base:Nat} {spare:Nat → Bool} {held:Bool} {fuel:Nat}
theorem len1 {α:Type} {cs:List α} (h:cs.length = 1):∃ a,cs = [a]:=by
 match cs,h with
 | [a],_ => exact ⟨a,rfl⟩
theorem len4 {α:Type} {cs:List α} (h:cs.length = 4):∃ a b c d,cs = [a,b,c,d]:=by
 match cs,h with
 | [a,b,c,d],_ => exact ⟨a,b,c,d,rfl⟩
theorem len6 {α:Type} {cs:List α} (h:cs.length = 6):∃ a b c d e f,cs = [a,b,c,d,e,f]:=by
 match cs,h with
 | [a,b,c,d,e,f],_ => exact ⟨a,b,c,d,e,f,rfl⟩
theorem mapOne {α:Type} (f : α → Value) (l:List α):(l.flatMap fun a => [f a]) = l.map f:=by
 induction l with
 | nil => rfl
 | cons a l ih => rw [List.flatMap_cons,ih];rfl
theorem cells_fdF:Tryz.prog.cellsOf 89 = 4:=by kernel_rfl
theorem cells_strF:Tryz.prog.cellsOf 9 = 1:=by kernel_rfl
theorem cells_boolF:Tryz.prog.cellsOf 4 = 1:=by kernel_rfl
theorem cells_drF:Tryz.prog.cellsOf 48 = 6:=by kernel_rfl
theorem open_fdF {cs:List Value} {x:DataW H × List MemPlace} (hl:cs.length = 4) (h:DataW.trod enc Tryz.prog w base spare held fuel 89 cs = some x):∃ f:Fd,cs = fdV f:=by
 obtain ⟨n,hf⟩:=trod_at Tryz.underlying89 (by kernel_rfl) h hl
 obtain ⟨c0,c1,c2,c3,rfl⟩:=len4 hl
 obtain ⟨y0,h0⟩:=hf 0 _ c0 rfl rfl
 obtain ⟨y1,h1⟩:=hf 1 _ c1 rfl rfl
 obtain ⟨y2,h2⟩:=hf 2 _ c2 rfl rfl
 obtain ⟨y3,h3⟩:=hf 3 _ c3 rfl rfl
 obtain ⟨a0,e0,_,w0⟩:=DataW.trod_int Tryz.underlying30 h0
 obtain ⟨a1,e1,_,_⟩:=DataW.trod_string Tryz.underlying9 h1
 obtain ⟨a2,e2,_,w2⟩:=DataW.trod_int Tryz.underlying84 h2
 obtain ⟨a3,e3,_⟩:=DataW.trod_bool Tryz.underlying4 h3
 injection e0 with e0
 injection e1 with e1
 injection e2 with e2
 injection e3 with e3
 subst e0 e1 e2 e3
 have b0:=bounds_u32 w0
 have b2:=bounds_u8 w2
 refine ⟨⟨UInt32.ofNat a0.toNat,a1,UInt8.ofNat a2.toNat,a3⟩,?_⟩
 have q0:((UInt32.ofNat a0.toNat).toNat:Int) = a0:=by rw [UInt32.toNat_ofNat'];omega
 have q2:((UInt8.ofNat a2.toNat).toNat:Int) = a2:=by rw [UInt8.toNat_ofNat'];omega
 simp only [fdV,q0,q2]
theorem open_fdsF {cs:List Value} {x:DataW H × List MemPlace} (h:DataW.trod enc Tryz.prog w base (fun _ => true) held fuel 31 cs = some x):∃ (A:Option Addr) (c:Nat) (l:List Fd),cs = [.slice A l.length c] ∧ Rd w w.heap.size 4 A l.length c (fdsV l):=by
 obtain ⟨A,n,c,l,e,hr,_⟩:=open_rows fdV 4 (fun _ => rfl) Tryz.underlying31 cells_fdF (by omega) (fun _ => True) (fun F cs x hl h => by obtain ⟨f,hf⟩:=open_fdF hl h;exact ⟨f,hf,trivial⟩) h
 obtain rfl:=Rd.lenF hr
 exact ⟨A,c,l,e,hr⟩
theorem open_strF {cs:List Value} {x:DataW H × List MemPlace} (h:DataW.trod enc Tryz.prog w base (fun _ => true) held fuel 41 cs = some x):∃ (A:Option Addr) (c:Nat) (l:List ByteArray),cs = [.slice A l.length c] ∧ Rd w w.heap.size 1 A l.length c (strsV l):=by
 obtain ⟨A,n,c,l,e,hr,_⟩:=open_rows (fun a:ByteArray => [Value.string a]) 1 (fun _ => rfl) Tryz.underlying41 cells_strF (by omega) (fun _ => True) (fun F cs x hl h => by
  obtain ⟨c0,rfl⟩:=len1 hl
  obtain ⟨a0,e0,_,_⟩:=DataW.trod_string Tryz.underlying9 h
  injection e0 with e0
  subst e0
  exact ⟨a0,rfl,trivial⟩) h
 rw [mapOne] at hr
 have hr:Rd w w.heap.size 1 A n c (strsV l):=hr
 obtain rfl:=Rd.lenT hr
 exact ⟨A,c,l,e,hr⟩
theorem open_dr {cs:List Value} {x:DataW H × List MemPlace} (hl:cs.length = 6) (h:DataW.trod enc Tryz.prog w base (fun _ => true) held fuel 48 cs = some x):∃ o:Dl,cs = dlV o ∧ DlR w o:=by
 obtain ⟨n,hf⟩:=trod_at Tryz.underlying48 (by kernel_rfl) h hl
 obtain ⟨c0,c1,c2,c3,c4,c5,rfl⟩:=len6 hl
 obtain ⟨y0,h0⟩:=hf 0 _ c0 rfl rfl
 obtain ⟨y1,h1⟩:=hf 1 _ c1 rfl rfl
 obtain ⟨y2,h2⟩:=hf 2 _ c2 rfl rfl
 obtain ⟨y3,h3⟩:=hf 3 _ c3 rfl rfl
 obtain ⟨y4,h4⟩:=hf 4 _ c4 rfl rfl
 obtain ⟨y5,h5⟩:=hf 5 _ c5 rfl rfl
 obtain ⟨a0,e0,_⟩:=DataW.trod_bool Tryz.underlying4 h0
 obtain ⟨A1,k1,l1,e1,r1⟩:=open_fdsF h1
 obtain ⟨A2,k2,l2,e2,r2,_⟩:=open_ens h2
 obtain ⟨A3,k3,l3,e3,r3⟩:=open_strF h3
 obtain ⟨a4,e4,_,w4⟩:=DataW.trod_int Tryz.underlying35 h4
 obtain ⟨a5,e5,_,w5⟩:=DataW.trod_int Tryz.underlying35 h5
 simp only [List.cons.injEq,and_true] at e0 e1 e2 e3 e4 e5
 subst e0 e1 e2 e3 e4 e5
 have b4:=bounds_u64 w4
 have b5:=bounds_u64 w5
 have q4:((UInt64.ofNat a4.toNat).toNat:Int) = a4:=by rw [UInt64.toNat_ofNat'];omega
 have q5:((UInt64.ofNat a5.toNat).toNat:Int) = a5:=by rw [UInt64.toNat_ofNat'];omega
 refine ⟨⟨⟨a0,l1,l2.map El.p,l3,UInt64.ofNat a4.toNat,UInt64.ofNat a5.toNat⟩,l2,A1,k1,A2,k2,A3,k3⟩,?_,⟨r1,r2,rfl,r3⟩⟩
 simp only [dlV,q4,q5]
theorem frame_bools {W:World} {r:Reach} {v:Value} {d:DataW H} {ps:List MemPlace} {b0:Nat} (hv:Value.okWide Tryz.prog W r b0 22 v) (h:DataW.Trod enc Tryz.prog W base (fun _ => true) held 22 v d ps) :
 ∃ (A:Option Addr) (c:Nat) (l:List Bool),v = .slice A l.length c ∧ Rd W W.heap.size 1 A l.length c (l.map .bool):=by
 obtain ⟨A,n,c,rfl⟩:=okWide_slice Tryz.underlying22 hv
 obtain ⟨F,hf⟩:=h
 obtain ⟨A2,n2,c2,l,e,hr,_⟩:=open_rows (fun a:Bool => [Value.bool a]) 1 (fun _ => rfl) Tryz.underlying22 cells_boolF (by omega) (fun _ => True) (fun F cs x hl h => by
  obtain ⟨c0,rfl⟩:=len1 hl
  obtain ⟨a0,e0,_⟩:=DataW.trod_bool Tryz.underlying4 h
  injection e0 with e0
  subst e0
  exact ⟨a0,rfl,trivial⟩) hf
 simp [Value.cells] at e
 obtain ⟨rfl,rfl,rfl⟩:=e
 rw [mapOne] at hr
 obtain rfl:n = l.length:=by have:=hr.len;simp at this;omega
 exact ⟨_,_,l,rfl,hr⟩
theorem frame_drafts {W:World} {r:Reach} {v:Value} {d:DataW H} {ps:List MemPlace} {b0:Nat} (hv:Value.okWide Tryz.prog W r b0 52 v) (h:DataW.Trod enc Tryz.prog W base (fun _ => true) held 52 v d ps) :
 ∃ (A:Option Addr) (c:Nat) (l:List Dl),v = .slice A l.length c ∧ Rd W W.heap.size 6 A l.length c (dlsV l) ∧ ∀ o ∈ l,DlR W o:=by
 obtain ⟨A,n,c,rfl⟩:=okWide_slice Tryz.underlying52 hv
 obtain ⟨F,hf⟩:=h
 obtain ⟨A2,n2,c2,l,e,hr,hn⟩:=open_rows dlV 6 dlV_length Tryz.underlying52 cells_drF (by omega) _ (fun F cs x hl h => open_dr hl h) hf
 simp [Value.cells] at e
 obtain ⟨rfl,rfl,rfl⟩:=e
 obtain rfl:n = l.length:=by have:=hr.len;rw [flat_len dlV 6 dlV_length] at this;omega
 exact ⟨_,_,l,rfl,hr,hn⟩
end
end Go.Proofs.YtpfofefecamkfaaGreatDoor
