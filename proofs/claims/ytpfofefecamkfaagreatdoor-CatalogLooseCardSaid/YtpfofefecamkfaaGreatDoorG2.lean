/- WHAT SERVES THE TABLES' STATEMENTS, part 2: D2. No statement of the seat is proved here. -/
import Derived.Test.YtpfofefecamkfaaGreatDoorG1
import Derived.Deep.RegionHeld3
namespace Go.Proofs.YtpfofefecamkfaaGreatDoor
open Go.RowKit
set_option maxRecDepth 100000

section

theorem or_step (acc k x:Nat) (hk:k ≤ 9) (hx:x < 256) (hacc:acc < 2 ^ (7 * k)) (h9:k = 9 → x ≤ 1) :
 bits BinOp.or .u64 (acc:Int) (IntKind.u64.wrap (IntKind.u64.wrap (bits BinOp.and .u8 (x:Int) 127) * 2 ^ (7 * k))) = ((acc + x % 128 * 2 ^ (7 * k):Nat):Int):=by
 have e1:bits BinOp.and .u8 (x:Int) 127 = ((x % 128:Nat):Int):=by
  have:=u8_and_nat x 127 hx (by omega)
  rw [nat_mask7] at this
  exact this
 rw [e1,IntWalk.u64_in ((x % 128:Nat):Int) ⟨by omega,by omega⟩]
 have e2:((x % 128:Nat):Int) * 2 ^ (7 * k) = ((x % 128 * 2 ^ (7 * k):Nat):Int):=by
  rw [Int.natCast_mul,Int.natCast_pow];rfl
 have hb:x % 128 * 2 ^ (7 * k) ≤ 9223372036854775808:=by
  by_cases h:k = 9
  ·have:=h9 h
   subst h
   have:x % 128 ≤ 1:=by omega
   have:=Nat.mul_le_mul_right (2 ^ (7 * 9)) this
   omega
  ·have h1:2 ^ (7 * k) ≤ 2 ^ 56:=Nat.pow_le_pow_right (by omega) (by omega)
   have h2:x % 128 * 2 ^ (7 * k) ≤ 127 * 2 ^ 56:=Nat.mul_le_mul (by omega) h1
   omega
 have ha:acc < 9223372036854775808:=by
  have h1:2 ^ (7 * k) ≤ 2 ^ 63:=Nat.pow_le_pow_right (by omega) (by omega)
  omega
 rw [e2,IntWalk.u64_in ((x % 128 * 2 ^ (7 * k):Nat):Int) ⟨by omega,by omega⟩,u64_or_nat _ _ (by omega) (by omega),Nat.or_comm,
  nat_join (7 * k) _ _ (Nat.mul_mod_left _ _) hacc,Nat.add_comm]
theorem acc_step (acc k x:Nat) (hacc:acc < 2 ^ (7 * k)):acc + x % 128 * 2 ^ (7 * k) < 2 ^ (7 * (k + 1)):=by
 have e:2 ^ (7 * (k + 1)) = 128 * 2 ^ (7 * k):=by rw [Nat.mul_add,Nat.pow_add];omega
 have h:x % 128 * 2 ^ (7 * k) ≤ 127 * 2 ^ (7 * k):=Nat.mul_le_mul_right _ (by omega)
 rw [e];omega
theorem drop_cons_of (l:List UInt8) (k:Nat) (x:UInt8) (h:k < l.length) (hx:x = l[k]):l.drop k = x :: l.drop (k + 1):=by
 rw [List.drop_eq_getElem_cons h,hx]

def RetGet (w:World) (l:List UInt8) (e:Ending) (w':World):Prop :=
 e = .returned (.tuple #[.int .u64 ((Var.get l).1:Int),.int .i64 ((Var.get l).2.1:Int),.int .i64 ((Var.get l).2.2:Int)]) ∧ w = w'

theorem varGet (w:World) (B n c:Nat) (A:Option Addr) (l:List UInt8) (hr:Rd w B 1 A n c (bytesV l)) :
 Calls Tryz.prog 168 #[.slice A n c] w (RetGet w l):=by
 obtain rfl:n = l.length:=by have:=hr.len;rw [bytesV_length] at this;omega
 have hmax:l.length ≤ 9223372036854775807:=by have h1:=hr.le;have h2:=hr.cap;unfold maxLen at h2;omega
 go_enter Tryz.func168,Tryz.ntmps168
 go_wp2
 go_loop [5,10] (fun nv iv => ∃ (k acc:Nat),k ≤ l.length ∧ k ≤ 9 ∧ iv = .int .i64 k ∧ nv = .int .u64 acc ∧ Hid (Var.get l = Var.getL k acc (l.drop k)) ∧ Hid (acc < 2 ^ (7 * k))) (fun _ i => l.length - (intOf i).toNat)
 case atStart => exact ⟨0,0,by omega,by omega,rfl,rfl,hide rfl,hide (by decide)⟩
 case round =>
  obtain ⟨k,acc,hk,hk9,rfl,rfl,hg,hacc⟩:=hrel
  by_cases hlt:k < l.length
  ·obtain ⟨b,off,rfl,_,hc⟩:=hr.cellAt (k:=k) (by rw [bytesV_length];exact hlt)
   obtain ⟨x,hx⟩:∃ x:UInt8,x = l[k]:=⟨_,rfl⟩
   have hc':w.cell? ⟨b,off + k,none⟩ = some (.int .u8 (x.toNat:Int)):=by rw [hc,hx];simp [bytesV,byteV]
   have hx256:=x.toNat_lt
   clear hc
   have HD:=hide (drop_cons_of l k x hlt hx)
   clear hx
   by_cases h9:k = 9 ∧ 1 < x.toNat
   ·obtain ⟨rfl,h1⟩:=h9
    have t2:decide ((1:Int) < (x.toNat:Int)) = true:=by simp;omega
    have hv:Var.get l = (0,0,31):=by rw [hg.out,HD.out];simp [Var.getL,h1]
    have HV:=hide hv
    clear hv
    go_wp2
    go_ret3
    exact ⟨by rw [HV.out];rfl,rfl⟩
   ·by_cases hc:x.toNat < 128
    ·have t3:decide ((x.toNat:Int) < 128) = true:=by simp;omega
     have hor:=hide (or_step acc k x.toNat hk9 hx256 hacc.out (by intro h;omega))
     by_cases h0:x.toNat = 0 ∧ 0 < k
     ·have hv:Var.get l = (0,0,31):=by
       rw [hg.out,HD.out]
       simp only [Var.getL]
       rw [if_neg h9,if_pos hc,if_pos h0]
      have HV:=hide hv
      clear hv
      have t4:((x.toNat:Int) == 0) = true:=by simp;omega
      have t5:decide (0 < k) = true:=by simp;omega
      by_cases hk9':k = 9
      ·subst hk9'
       have t2:decide ((1:Int) < (x.toNat:Int)) = false:=by simp;omega
       clear h9 h0
       go_wp2
       go_ret3
       exact ⟨by rw [HV.out];rfl,rfl⟩
      ·have t1:((k:Int) == 9) = false:=by simp;omega
       clear h9 h0
       go_wp2
       go_ret3
       exact ⟨by rw [HV.out];rfl,rfl⟩
     ·have hv:Var.get l = (acc + x.toNat % 128 * 2 ^ (7 * k),k + 1,0):=by
       rw [hg.out,HD.out]
       simp only [Var.getL]
       rw [if_neg h9,if_pos hc,if_neg h0]
      have HV:=hide hv
      clear hv
      by_cases hx0:x.toNat = 0
      ·obtain rfl:k = 0:=by omega
       simp only [Nat.add_zero] at hc'
       have t4:((x.toNat:Int) == 0) = true:=by simp;omega
       have t1:(((0:Nat):Int) == 9) = false:=by decide
       clear h9 h0 hx0
       go_wp2
       go_ret3
       exact ⟨by rw [HV.out];have h3:=hor.out;simp only [Nat.mul_zero,Int.pow_zero,Int.mul_one] at h3;simp only [Nat.mul_zero];rw [← h3];rfl,rfl⟩
      ·have t4:((x.toNat:Int) == 0) = false:=by simp;omega
       by_cases hk9':k = 9
       ·subst hk9'
        have t2:decide ((1:Int) < (x.toNat:Int)) = false:=by simp;omega
        clear h9 h0
        go_wp2
        go_ret3
        exact ⟨by rw [HV.out,← hor.out];rfl,rfl⟩
       ·have t1:((k:Int) == 9) = false:=by simp;omega
        clear h9 h0
        go_wp2
        go_ret3
        exact ⟨by rw [HV.out,← hor.out];rfl,rfl⟩
    ·have t3:decide ((x.toNat:Int) < 128) = false:=by simp;omega
     have t1:((k:Int) == 9) = false:=by simp;omega
     have hor:=hide (or_step acc k x.toNat hk9 hx256 hacc.out (by intro h;omega))
     have hv:Var.get l = Var.getL (k + 1) (acc + x.toNat % 128 * 2 ^ (7 * k)) (l.drop (k + 1)):=by
      rw [hg.out,HD.out]
      simp only [Var.getL]
      rw [if_neg h9,if_neg hc]
     have HV:=hide hv
     have hk8:k + 1 ≤ 9:=by omega
     clear hv h9
     go_wp2
     go_round
     case rel => exact ⟨k + 1,_,by omega,by omega,by go_num,by rw [← hor.out],hide HV.out,hide (acc_step _ _ _ hacc.out)⟩
     case measure => simp [intOf];omega
  ·have hv:Var.get l = (0,0,30):=by rw [hg.out,List.drop_eq_nil_of_le (by omega)];rfl
   have HV:=hide hv
   clear hv
   go_wp2
   go_ret3
   exact ⟨by rw [HV.out];rfl,rfl⟩

section
open Go.RowKit

/-! ### all but one block is as it was -/
structure Oth (b:Nat) (w w':World):Prop where
 os:w'.os = w.os
 tape:w'.tape = w.tape
 output:w'.output = w.output
 size:w.heap.size ≤ w'.heap.size
 block:∀ k,k < w.heap.size → k ≠ b → w'.heap[k]? = w.heap[k]?
theorem Oth.refl (b:Nat) (w:World):Oth b w w:=⟨rfl,rfl,rfl,Nat.le_refl _,fun _ _ _ => rfl⟩
theorem Oth.trans {b:Nat} {u v w:World} (h:Oth b u v) (k:Oth b v w):Oth b u w :=
 ⟨k.os.trans h.os,k.tape.trans h.tape,k.output.trans h.output,Nat.le_trans h.size k.size,fun i hi hne => (k.block i (Nat.lt_of_lt_of_le hi h.size) hne).trans (h.block i hi hne)⟩
theorem Oth.of {b:Nat} {w w':World} (h:Below w.heap.size w w'):Oth b w w':=⟨h.os,h.tape,h.output,h.size,fun k hk _ => h.block k hk⟩
theorem Oth.drew {b:Nat} {u w:World} (h:Oth b u w):Oth b u w.drew:=⟨h.os,h.tape,h.output,h.size,h.block⟩
theorem Oth.alloc {b:Nat} {u w:World} (h:Oth b u w) (o:Obj):Oth b u (w.alloc o):=h.trans (.of ((Below.refl _ _).alloc (Nat.le_refl _) o))
theorem Oth.set {b:Nat} {u w:World} (h:Oth b u w) (j:Nat) (x:Value):Oth b u (w.setCell ⟨b,j,none⟩ x) :=
 h.trans ⟨rfl,rfl,rfl,by simp [World.setCell],fun k _ hne => Below.heap_setCell _ _ _ _ hne⟩
/-- a store into a block that is new -/
theorem Oth.setNew {b:Nat} {u w:World} (h:Oth b u w) {p:Addr} (hp:u.heap.size ≤ p.block) (x:Value):Oth b u (w.setCell p x) :=
 ⟨h.os,h.tape,h.output,by simp [World.setCell];exact h.size,fun k hk hne => (Below.heap_setCell _ _ _ _ (by omega)).trans (h.block k hk hne)⟩
theorem Oth.cell {b:Nat} {w w':World} (h:Oth b w w') {p:Addr} (hp:p.block < w.heap.size) (hne:p.block ≠ b):w'.cell? p = w.cell? p:=World.cell?_of_block (w:=w) (h.block p.block hp hne)
theorem Oth.frozen {b:Nat} {w w':World} (h:Oth b w w') {p:Addr} (hp:p.block < w.heap.size) (hne:p.block ≠ b):w'.frozen? p = w.frozen? p:=World.frozen?_of_block (w:=w) (h.block p.block hp hne)
theorem Oth.below {b:Nat} {w w':World} (h:Oth b w w') (hb:b ≤ w.heap.size):Below b w w':=⟨h.os,h.tape,h.output,h.size,fun k hk => h.block k (by omega) (by omega)⟩
theorem own_oth {base b:Nat} {w w':World} {v:Value} {n:Nat} {xs:List Value} {e:TypeId} {sz:Nat} (h:w.ownsRow base e sz v n xs) (ho:Oth b w w') (hb:b < base):w'.ownsRow base e sz v n xs:=by
 refine h.kept (row:=some b) ⟨ho.os,ho.tape,ho.output,ho.size,fun k hk hne => ho.block k hk (fun q => hne (by rw [q]))⟩ ?_
 cases hv:v.ownBlock with
 | none => exact .inl rfl
 | some k =>
   refine .inr fun q => ?_
   have:=(h.lt k hv).1
   injection q with q
   omega

/-! ### a cut of bytes -/
theorem rd_lo {w:World} {B c:Nat} {A:Option Addr} {l:List UInt8} (hr:Rd w B 1 A l.length c (bytesV l)) {lo:Nat} (hlo:lo ≤ l.length):∃ A2 l2,l2 = l.drop lo ∧
 (∀ k W,(Instr.sliceAt 55 (.slice A l.length c) (some (.int k (lo:Int))) none none).run Tryz.prog W = .ok (.slice A2 l2.length (c - lo)) W) ∧
 (∀ k W,(Instr.slice 55 (.slice A l.length c) (some (.int k (lo:Int))) none none).run Tryz.prog W = .ok (.slice A2 l2.length (c - lo)) W) ∧ Rd w B 1 A2 l2.length (c - lo) (bytesV l2):=by
 refine ⟨(if c = lo then A else A.map (·.add (lo * 1))),l.drop lo,rfl,fun k W => ?_,fun k W => ?_,?_⟩
 ·rw [List.length_drop];exact cut_lo tyBytes A l.length c k (lo:Int) lo rfl hlo hr.le W
 ·rw [List.length_drop];exact run_cut_lo tyBytes A l.length c k (lo:Int) lo rfl hlo hr.le W
 ·have:=hr.cut hlo (Nat.le_refl _)
  rw [List.length_drop]
  rw [List.take_of_length_le (by simp [bytesV])] at this
  simpa [bytesV,List.map_drop] using this

/-! ### a reader's box -/
structure RdrA (w:World) (b:Nat) (A:Option Addr) (c:Nat) (l:List UInt8) (e:Nat):Prop where
 c0:w.cell? ⟨b,0,none⟩ = some (.slice A l.length c)
 c1:w.cell? ⟨b,1,none⟩ = some (.int .i64 (e:Int))
 f0:w.frozen? ⟨b,0,none⟩ = false
 f1:w.frozen? ⟨b,1,none⟩ = false
 z:b < w.heap.size
 rd:Rd w b 1 A l.length c (bytesV l)
section
variable {w w':World} {b c:Nat} {A:Option Addr} {l:List UInt8} {e:Nat}
theorem RdrA.keep (h:RdrA w b A c l e) (hb:Below w.heap.size w w'):RdrA w' b A c l e where
 c0:=(hb.cell (p:=⟨b,0,none⟩) h.z).trans h.c0
 c1:=(hb.cell (p:=⟨b,1,none⟩) h.z).trans h.c1
 f0:=(hb.frozen (p:=⟨b,0,none⟩) h.z).trans h.f0
 f1:=(hb.frozen (p:=⟨b,1,none⟩) h.z).trans h.f1
 z:=Nat.lt_of_lt_of_le h.z hb.size
 rd:=h.rd.below' hb (Nat.le_of_lt h.z)
/-- a store elsewhere, not below it -/
theorem RdrA.elsewhere (h:RdrA w b A c l e) {p:Addr} (hp:b < p.block) (x:Value):RdrA (w.setCell p x) b A c l e:=by
 have hne:∀ j,(⟨b,j,none⟩:Addr) ≠ p:=fun j q => by subst q;exact Nat.lt_irrefl _ hp
 have hB:Below p.block w (w.setCell p x):=(Below.refl _ _).setCell (Nat.le_refl _) x
 exact ⟨(hB.cell (p:=⟨b,0,none⟩) hp).trans h.c0,(hB.cell (p:=⟨b,1,none⟩) hp).trans h.c1,(hB.frozen (p:=⟨b,0,none⟩) hp).trans h.f0,(hB.frozen (p:=⟨b,1,none⟩) hp).trans h.f1,
  by simpa using h.z,h.rd.below' hB (Nat.le_of_lt hp)⟩
theorem RdrA.set0 (h:RdrA w b A c l e) {A2:Option Addr} {c2:Nat} {l2:List UInt8} (hr:Rd w b 1 A2 l2.length c2 (bytesV l2)):RdrA (w.setCell ⟨b,0,none⟩ (.slice A2 l2.length c2)) b A2 c2 l2 e:=by
 have c0:=h.c0
 have c1:=h.c1
 have f0:=h.f0
 have f1:=h.f1
 exact ⟨by go_simp,by go_simp,by go_simp,by go_simp,by simpa using h.z,hr.below ((Below.refl b w).setCell (p:=⟨b,0,none⟩) (Nat.le_refl _) _)⟩
theorem RdrA.set1 (h:RdrA w b A c l e) (e2:Nat):RdrA (w.setCell ⟨b,1,none⟩ (.int .i64 (e2:Int))) b A c l e2:=by
 have c0:=h.c0
 have c1:=h.c1
 have f0:=h.f0
 have f1:=h.f1
 exact ⟨by go_simp,by go_simp,by go_simp,by go_simp,by simpa using h.z,h.rd.below ((Below.refl b w).setCell (p:=⟨b,1,none⟩) (Nat.le_refl _) _)⟩
end
/-- a new one -/
theorem rdr_new (w:World) {c:Nat} {A:Option Addr} {l:List UInt8} (hr:Rd w w.heap.size 1 A l.length c (bytesV l)) (t:TypeId):RdrA (w.alloc (.cells #[.slice A l.length c,.int .i64 0] t)) w.heap.size A c l 0:=by
 have x:=box_new w #[.slice A l.length c,.int .i64 0] t
 exact ⟨x.cell 0 _ rfl,x.cell 1 _ rfl,x.free 0,x.free 1,by rw [x.size];omega,hr.below x.below⟩

/-! ### plain: numbers, texts, fields -/
abbrev RdN:=Nat × List UInt8 × Nat
def num (most:Nat) (l:List UInt8) (e:Nat):RdN :=
 if e ≠ 0 then (0,l,e) else if (Var.get l).2.2 ≠ 0 then (0,l,(Var.get l).2.2) else if most < (Var.get l).1 then (0,l,40) else ((Var.get l).1,l.drop (Var.get l).2.1,0)
theorem num_e {most:Nat} {l:List UInt8} {e:Nat} (h:e ≠ 0):num most l e = (0,l,e):=by unfold num;rw [if_pos h]
theorem num_g {most:Nat} {l:List UInt8} (h:(Var.get l).2.2 ≠ 0):num most l 0 = (0,l,(Var.get l).2.2):=by unfold num;rw [if_neg (by simp),if_pos h]
theorem num_m {most:Nat} {l:List UInt8} (h:(Var.get l).2.2 = 0) (h2:most < (Var.get l).1):num most l 0 = (0,l,40):=by unfold num;rw [if_neg (by simp),if_neg (by simp [h]),if_pos h2]
theorem num_0 {most:Nat} {l:List UInt8} (h:(Var.get l).2.2 = 0) (h2:¬ most < (Var.get l).1):num most l 0 = ((Var.get l).1,l.drop (Var.get l).2.1,0):=by unfold num;rw [if_neg (by simp),if_neg (by simp [h]),if_neg h2]
theorem num_le (most:Nat) (l:List UInt8) (e:Nat):(num most l e).1 ≤ most:=by
 unfold num;split
 ·simp
 ·split
  ·simp
  ·split
   ·simp
   ·omega
theorem num_len (most:Nat) (l:List UInt8) (e:Nat):(num most l e).2.1.length ≤ l.length:=by
 unfold num;split
 ·simp
 ·split
  ·simp
  ·split
   ·simp
   ·simp
/-- a text of at most so many bytes: the size that was read, the bytes behind it -/
def textE (r:RdN):Nat:=if r.2.2 = 0 ∧ r.2.1.length < r.1 then 30 else r.2.2
def textS (r:RdN):ByteArray:=if textE r = 0 then ⟨(r.2.1.take r.1).toArray⟩ else ByteArray.empty
def textL (r:RdN):List UInt8:=if textE r = 0 then r.2.1.drop r.1 else r.2.1
def rdF (l:List UInt8) (e:Nat):Fd × List UInt8 × Nat :=
 let a:=num 4294967295 l e
 let s:=num 16 a.2.1 a.2.2
 let k:=num 255 (textL s) (textE s)
 let q:=num 1 k.2.1 k.2.2
 (⟨UInt32.ofNat a.1,textS s,UInt8.ofNat k.1,decide (q.1 = 1)⟩,q.2.1,q.2.2)
def rdFs:Nat → List UInt8 → Nat → List Fd → List Fd × List UInt8 × Nat
 | 0,l,e,acc => (acc,l,e)
 | n + 1,l,e,acc => if e ≠ 0 then (acc,l,e) else rdFs n (rdF l e).2.1 (rdF l e).2.2 (acc ++ [(rdF l e).1])
structure RdS where
 id:UInt32
 fs:List Fd
 left:List UInt8
 err:Nat
def rdS (l:List UInt8) (e:Nat):RdS :=
 let a:=num 4294967295 l e
 let n:=num 8 a.2.1 a.2.2
 let r:=rdFs n.1 n.2.1 n.2.2 []
 ⟨UInt32.ofNat a.1,r.1,r.2.1,if r.2.2 = 0 then check (UInt32.ofNat a.1) r.1 else r.2.2⟩
/-- what reading a number leaves -/
def NumEnd (w:World) (b:Nat) (r:RdN) (e:Ending) (w':World):Prop :=
 e = .returned (.int .u64 (r.1:Int)) ∧ (∃ A c,RdrA w' b A c r.2.1 r.2.2) ∧ Oth b w w'
end

section
open Go.RowKit

structure BoxN (w:World) (b:Nat) (cs:List Value):Prop where
 cell:∀ j v,cs[j]? = some v → w.cell? ⟨b,j,none⟩ = some v
 free:∀ j,j < cs.length → w.frozen? ⟨b,j,none⟩ = false
 z:b < w.heap.size
section
variable {w w':World} {b:Nat} {cs:List Value}
theorem boxN_new (w:World) (cs:Array Value) (t:TypeId):BoxN (w.alloc (.cells cs t)) w.heap.size cs.toList:=by
 have x:=box_new w cs t
 exact ⟨fun j v h => x.cell j v (by simpa using h),fun j _ => x.free j,by rw [x.size];omega⟩
theorem BoxN.keep (h:BoxN w b cs) {B:Nat} (hb:Below B w w') (hz:b < B):BoxN w' b cs :=
 ⟨fun j v hj => (hb.cell (p:=⟨b,j,none⟩) hz).trans (h.cell j v hj),fun j hj => (hb.frozen (p:=⟨b,j,none⟩) hz).trans (h.free j hj),Nat.lt_of_lt_of_le h.z hb.size⟩
theorem BoxN.oth (h:BoxN w b cs) {b2:Nat} (ho:Oth b2 w w') (hne:b ≠ b2):BoxN w' b cs :=
 ⟨fun j v hj => (ho.cell (p:=⟨b,j,none⟩) h.z hne).trans (h.cell j v hj),fun j hj => (ho.frozen (p:=⟨b,j,none⟩) h.z hne).trans (h.free j hj),Nat.lt_of_lt_of_le h.z ho.size⟩
theorem BoxN.set (h:BoxN w b cs) {j:Nat} (x:Value) {u:Value} (hj:cs[j]? = some u):BoxN (w.setCell ⟨b,j,none⟩ x) b (cs.set j x):=by
 have cu:=h.cell j u hj
 have hjl:j < cs.length:=(List.getElem?_eq_some_iff.1 hj).1
 refine ⟨fun i v hi => ?_,fun i hi => ?_,by simpa using h.z⟩
 ·by_cases hij:j = i
  ·subst hij
   have:v = x:=by rw [List.getElem?_set_self hjl] at hi;exact (Option.some.inj hi).symm
   subst this
   go_simp
  ·rw [List.getElem?_set_ne hij] at hi
   rw [World.cell?_setCell_other]
   ·exact h.cell i v hi
   ·intro q;injection q with _ q;exact hij q
 ·have:=h.free i (by simpa using hi)
  go_simp
theorem BoxN.else (h:BoxN w b cs) {p:Addr} (hp:p.block ≠ b) (x:Value):BoxN (w.setCell p x) b cs:=by
 refine ⟨fun i v hi => ?_,fun i hi => ?_,by simpa using h.z⟩
 ·rw [World.cell?_setCell_other]
  ·exact h.cell i v hi
  ·intro q;exact hp (by rw [q])
 ·have:=h.free i hi
  go_simp
end
theorem RdrA.keepB {w w':World} {b c:Nat} {A:Option Addr} {l:List UInt8} {e B:Nat} (h:RdrA w b A c l e) (hb:Below B w w') (hz:b < B):RdrA w' b A c l e where
 c0:=(hb.cell (p:=⟨b,0,none⟩) hz).trans h.c0
 c1:=(hb.cell (p:=⟨b,1,none⟩) hz).trans h.c1
 f0:=(hb.frozen (p:=⟨b,0,none⟩) hz).trans h.f0
 f1:=(hb.frozen (p:=⟨b,1,none⟩) hz).trans h.f1
 z:=Nat.lt_of_lt_of_le h.z hb.size
 rd:=h.rd.below' hb (Nat.le_of_lt hz)
theorem Oth.belowB {b B:Nat} {w w':World} (h:Oth b w w') (hB:B ≤ b) (hz:B ≤ w.heap.size):Below B w w':=⟨h.os,h.tape,h.output,h.size,fun k hk => h.block k (by omega) (by omega)⟩

/-! ### what Unpack and the document's Schema give -/
def uId (l:List UInt8):UInt32:=if (rdS l 0).err = 0 then (rdS l 0).id else 0
def uFs (l:List UInt8):List Fd:=if (rdS l 0).err = 0 then (rdS l 0).fs else []
def uLeft (l:List UInt8):List UInt8:=if (rdS l 0).err = 0 then (rdS l 0).left else []
theorem results_cell_tmp2 {fn:Func} {p u u2:Tmp} {ty:TypeId} (h:fn.results = #[.cell p ty,.tmp u,.tmp u2]) (tmps:Array Value) (P:Program) (w:World) :
 (results fn tmps).run P w =
   ((asAddr (tmps.getD p undef)).run P w).andThen fun a w₁ => ((loadVar ty a).run P w₁).andThen fun v w₂ => .ok (.tuple #[v,tmps.getD u undef,tmps.getD u2 undef]) w₂:=by
 simp only [results,h]
 simp [Sem.run_bind,Result.andThen]
theorem ret_sch3 {fn:Func} {p u u2:Tmp} (h:fn.results = #[.cell p 33,.tmp u,.tmp u2]) (tmps:Array Value) (w:World) {b:Nat} {x y:Value} (hp:tmps.getD p undef = .pointer (some ⟨b,0,none⟩)) (c0:w.cell? ⟨b,0,none⟩ = some x) (c1:w.cell? ⟨b,1,none⟩ = some y) :
 (results fn tmps).run Tryz.prog w = .ok (.tuple #[.agg #[x,y],tmps.getD u undef,tmps.getD u2 undef]) w:=by
 rw [results_cell_tmp2 h,hp]
 have:=load_sch w b x y c0 c1
 simp [asAddr,Result.andThen,this]
theorem results_cell {fn:Func} {p:Tmp} {ty:TypeId} (h:fn.results = #[.cell p ty]) (tmps:Array Value) (P:Program) (w:World) :
 (results fn tmps).run P w =
   ((asAddr (tmps.getD p undef)).run P w).andThen fun a w₁ => (loadVar ty a).run P w₁:=by
 simp only [results,h]
 simp [Sem.run_bind,Result.andThen]
/-! ### what holds at each round -/
structure GU (w0:World) (B0 br bs:Nat) (uid:UInt32) (A:Option Addr) (c:Nat) (l:List UInt8) (e:Nat) (fA:Option Addr) (fc:Nat) (fs:List Fd) (wr:World):Prop where
 rd:RdrA wr br A c l e
 bx:BoxN wr bs [.int .u32 (uid.toNat:Int),.slice fA fs.length fc]
 own:wr.ownsRow (bs + 1) 89 4 (.slice fA fs.length fc) fs.length (fdsV fs)
 rb:BoxN wr B0 [.int .u32 0,.slice none 0 0]
 oth:Oth br w0 wr
 o1:br < bs
 o2:B0 < bs
 o3:B0 ≠ br
 o4:w0.heap.size ≤ bs
section
variable {w0 wr w7:World} {B0 br bs c fc e:Nat} {uid:UInt32} {A fA:Option Addr} {l:List UInt8} {fs:List Fd}
/-- the reader has gone on; all else is as it was -/
theorem GU.go (h:GU w0 B0 br bs uid A c l e fA fc fs wr) {A2:Option Addr} {c2:Nat} {l2:List UInt8} {e2:Nat} (hr:RdrA w7 br A2 c2 l2 e2) (ho:Oth br wr w7):GU w0 B0 br bs uid A2 c2 l2 e2 fA fc fs w7 :=
 ⟨hr,h.bx.oth ho (by have:=h.o1;omega),own_oth h.own ho (by have:=h.o1;omega),h.rb.oth ho h.o3,h.oth.trans ho,h.o1,h.o2,h.o3,h.o4⟩
theorem GU.lit (h:GU w0 B0 br bs uid A c l e fA fc fs wr) (f:Fd) {cs:Array Value} (hcs:cs.toList = fdV f) (hs:cs.size = 1 * 4) :
 (wr.alloc (.cells cs 89)).ownsRow (bs + 1) 89 4 (.slice fA fs.length fc) fs.length (fdsV fs) ∧ Rd (wr.alloc (.cells cs 89)) (wr.heap.size + 1) 4 (some ⟨wr.heap.size,0,none⟩) 1 1 (fdV f):=by
 refine ⟨h.own.alloc _,?_⟩
 have:=Rd.lit wr 89 cs (n:=1) (sz:=4) hs (by decide)
 rw [hcs] at this
 exact this
theorem GU.grown (h:GU w0 B0 br bs uid A c l e fA fc fs wr) {f:Fd} {cs:Array Value} {w8:World} {v:Value} (hown:w8.ownsRow (bs + 1) 89 4 v (fs.length + 1) (fdsV fs ++ fdV f))
 (hg:(wr.alloc (.cells cs 89)).grownBy w8 (Value.slice fA fs.length fc).ownBlock) :
 ∃ g cap,v = .slice (some ⟨g,0,none⟩) (fs.length + 1) cap ∧ w8.cell? ⟨bs,1,none⟩ = some (.slice fA fs.length fc) ∧ w8.frozen? ⟨bs,1,none⟩ = false ∧
  GU w0 B0 br bs uid A c l e (some ⟨g,0,none⟩) cap (fs ++ [f]) (w8.setCell ⟨bs,1,none⟩ (.slice (some ⟨g,0,none⟩) (fs.length + 1) cap)):=by
 have hz:=h.bx.z
 have h1:=h.o1
 have h2:=h.o2
 have hb:Below (bs + 1) wr w8:=below_app ((Below.refl (bs + 1) wr).alloc (by omega) (.cells cs 89)) (Nat.le_refl _) (h.own.alloc _) hg (by simp;omega)
 obtain ⟨g,cap,rfl,_,_⟩:=hown.form (Nat.succ_pos _)
 have bx:=h.bx.keep hb (Nat.lt_succ_self bs)
 have e1:(fs ++ [f]).length = fs.length + 1:=by simp
 have e2:fdsV fs ++ fdV f = fdsV (fs ++ [f]):=by rw [fdsV_append];simp [fdsV]
 refine ⟨g,cap,rfl,bx.cell 1 _ rfl,bx.free 1 (by simp),?_,?_,?_,?_,?_,h1,h2,h.o3,h.o4⟩
 ·exact (h.rd.keepB hb (by omega)).elsewhere h1 _
 ·rw [e1];exact bx.set _ rfl
 ·rw [e1,← e2];exact ownsRow_setCell_below hown (Nat.lt_succ_self _) _
 ·exact (h.rb.keep hb (by omega)).else (by show bs ≠ B0;omega) _
 ·refine Oth.setNew ?_ h.o4 _
  have ho:=h.oth
  exact ⟨hb.os.trans ho.os,hb.tape.trans ho.tape,hb.output.trans ho.output,Nat.le_trans ho.size hb.size,fun k hk hne => (hb.block k (by have:=h.o4;omega)).trans (ho.block k hk hne)⟩
theorem GU.rdF (h:GU w0 B0 br bs uid A c l e fA fc fs wr):Rd wr wr.heap.size 4 fA fs.length fc (fdsV fs):=by
 obtain ⟨A',c',q,hr⟩:=Rd.of_own h.own
 injection q with q1 q2 q3
 subst q1 q3
 exact hr
theorem GU.call (h:GU w0 B0 br bs uid A c l e fA fc fs wr) (hb:Below wr.heap.size wr w7):GU w0 B0 br bs uid A c l e fA fc fs w7:=h.go (h.rd.keep hb) (.of hb)
theorem GU.why (h:GU w0 B0 br bs uid A c l e fA fc fs wr) (e2:Nat):GU w0 B0 br bs uid A c l e2 fA fc fs (wr.setCell ⟨br,1,none⟩ (.int .i64 (e2:Int))):=h.go (h.rd.set1 e2) ((Oth.refl br wr).set 1 _)
/-- the schema is laid into the result -/
theorem GU.fin (h:GU w0 B0 br bs uid A c l e fA fc fs wr) (x y:Value) :
 Rd ((wr.setCell ⟨B0,0,none⟩ x).setCell ⟨B0,1,none⟩ y) ((wr.setCell ⟨B0,0,none⟩ x).setCell ⟨B0,1,none⟩ y).heap.size 4 fA fs.length fc (fdsV fs) ∧ (br < B0 → RdrA ((wr.setCell ⟨B0,0,none⟩ x).setCell ⟨B0,1,none⟩ y) br A c l e) ∧
  (w0.heap.size ≤ B0 → Oth br w0 ((wr.setCell ⟨B0,0,none⟩ x).setCell ⟨B0,1,none⟩ y)) ∧ ((wr.setCell ⟨B0,0,none⟩ x).setCell ⟨B0,1,none⟩ y).cell? ⟨B0,0,none⟩ = some x ∧ ((wr.setCell ⟨B0,0,none⟩ x).setCell ⟨B0,1,none⟩ y).cell? ⟨B0,1,none⟩ = some y:=by
 have h2:=h.o2
 obtain ⟨q0,q1⟩:=set2 wr B0 _ _ x y (h.rb.cell 0 _ rfl) (h.rb.cell 1 _ rfl)
 refine ⟨?_,fun hz => (h.rd.elsewhere (p:=⟨B0,0,none⟩) hz x).elsewhere (p:=⟨B0,1,none⟩) hz y,fun hz => (h.oth.setNew (p:=⟨B0,0,none⟩) hz x).setNew (p:=⟨B0,1,none⟩) hz y,q0,q1⟩
 obtain ⟨A',c',q,hr⟩:=Rd.of_own (ownsRow_setCell_below (ownsRow_setCell_below h.own (a:=⟨B0,0,none⟩) (Nat.lt_succ_of_lt h2) x) (a:=⟨B0,1,none⟩) (Nat.lt_succ_of_lt h2) y)
 injection q with q1 q2 q3
 subst q1 q3
 exact hr
end
theorem rdF_of {l l1 l3 l4:List UInt8} {e1 e3 e4 q:Nat} {fid:UInt32} {kd:UInt8} {r:RdN} (h1:num 4294967295 l 0 = (fid.toNat,l1,e1)) (h2:num 16 l1 e1 = r) (h3:num 255 (textL r) (textE r) = (kd.toNat,l3,e3)) (h4:num 1 l3 e3 = (q,l4,e4)) :
 rdF l 0 = (⟨fid,textS r,kd,decide (q = 1)⟩,l4,e4):=by
 unfold rdF
 simp only [h1,h2,h3,h4,UInt32.ofNat_toNat,UInt8.ofNat_toNat]
theorem rdS_of {l l1 l2 l':List UInt8} {er e1 e2 e' N:Nat} {id:UInt32} {fs:List Fd} (hA:(id.toNat,l1,e1) = num 4294967295 l er) (hN:(N,l2,e2) = num 8 l1 e1) (hQ:rdFs N l2 e2 [] = (fs,l',e')) :
 rdS l er = ⟨id,fs,l',if e' = 0 then check id fs else e'⟩:=by
 unfold rdS
 simp only [← hA,← hN,hQ,UInt32.ofNat_toNat]
def GUR (w0:World) (B0 br bs:Nat) (uid:UInt32) (R:List Fd × List UInt8 × Nat) (nv:Value) (wr:World):Prop :=
 ∃ (m:Nat) (A:Option Addr) (c:Nat) (l:List UInt8) (e:Nat) (fA:Option Addr) (fc:Nat) (fs:List Fd),nv = .int .u64 (m:Int) ∧ m + fs.length ≤ 8 ∧ Hid (rdFs m l e fs = R) ∧ GU w0 B0 br bs uid A c l e fA fc fs wr
theorem rdFs_end {m:Nat} {l:List UInt8} {e:Nat} {fs:List Fd} (h:m = 0 ∨ e ≠ 0):rdFs m l e fs = (fs,l,e):=by
 cases m with
 | zero => rfl
 | succ m => unfold rdFs;rw [if_pos (by omega)]
theorem rdFs_on {m:Nat} {l:List UInt8} {fs:List Fd}:rdFs (m + 1) l 0 fs = rdFs m (rdF l 0).2.1 (rdF l 0).2.2 (fs ++ [(rdF l 0).1]):=by
 rw [rdFs,if_neg (by simp)]
theorem text_e {r:RdN} (h:r.2.2 ≠ 0):textE r = r.2.2 ∧ textS r = ByteArray.empty ∧ textL r = r.2.1:=by
 have h1:textE r = r.2.2:=by unfold textE;rw [if_neg (by omega)]
 refine ⟨h1,?_,?_⟩
 ·unfold textS;rw [if_neg (by omega)]
 ·unfold textL;rw [if_neg (by omega)]
theorem text_30 {r:RdN} (h:r.2.2 = 0) (h2:r.2.1.length < r.1):textE r = 30 ∧ textS r = ByteArray.empty ∧ textL r = r.2.1:=by
 have h1:textE r = 30:=by unfold textE;rw [if_pos ⟨h,h2⟩]
 refine ⟨h1,?_,?_⟩
 ·unfold textS;rw [if_neg (by omega)]
 ·unfold textL;rw [if_neg (by omega)]
theorem text_0 {r:RdN} (h:r.2.2 = 0) (h2:¬ r.2.1.length < r.1):textE r = 0 ∧ textS r = ⟨(r.2.1.take r.1).toArray⟩ ∧ textL r = r.2.1.drop r.1:=by
 have h1:textE r = 0:=by unfold textE;rw [if_neg (by omega),h]
 refine ⟨h1,?_,?_⟩
 ·unfold textS;rw [if_pos h1]
 ·unfold textL;rw [if_pos h1]
/-- the beginning of bytes, as a text -/
theorem rd_hi {w:World} {B c:Nat} {A:Option Addr} {l:List UInt8} (hr:Rd w B 1 A l.length c (bytesV l)) {hi:Nat} (hhi:hi ≤ l.length) :
 (∀ k W,(Instr.sliceAt 55 (.slice A l.length c) none (some (.int k (hi:Int))) none).run Tryz.prog W = .ok (.slice A hi c) W) ∧
 (∀ k W,(Instr.slice 55 (.slice A l.length c) none (some (.int k (hi:Int))) none).run Tryz.prog W = .ok (.slice A hi c) W) ∧
 Rd w B 1 A hi c (bytesV (l.take hi)):=by
 have hc:hi ≤ c:=Nat.le_trans hhi hr.le
 refine ⟨fun k W => cut_hi tyBytes A l.length c k (hi:Int) hi rfl hc W,fun k W => run_cut_hi tyBytes A l.length c k (hi:Int) hi rfl hc W,?_⟩
 have:=hr.pre hhi
 simpa [bytesV,List.map_take] using this
end

section
open Go.RowKit

/-! ### the first place -/
def ixA {α:Type} (p:α → Bool) (l:List α):Int:=if l.any p then (l.findIdx p:Int) else -1
theorem ixA_ge {α:Type} {p:α → Bool} {l:List α}:decide ((0:Int) ≤ ixA p l) = l.any p:=by
 unfold ixA
 cases l.any p <;> simp
section
variable {α:Type} [Inhabited α] {p:α → Bool} {l:List α}
theorem ixA_hit {k:Nat} (hk:k < l.length) (h:p (l.getD k default) = true) (hn:∀ j,j < k → p (l.getD j default) = false):ixA p l = (k:Int):=by
 have hk':p l[k] = true:=by simpa [List.getD,hk] using h
 have ha:l.any p = true:=List.any_eq_true.2 ⟨l[k],List.getElem_mem hk,hk'⟩
 unfold ixA
 rw [if_pos ha]
 congr 1
 rw [List.findIdx_eq hk]
 refine ⟨hk',fun j hj => ?_⟩
 have:=hn j hj
 simpa [List.getD,show j < l.length by omega] using this
theorem anyA_none (h:∀ j,j < l.length → p (l.getD j default) = false):l.any p = false:=by
 rw [List.any_eq_false]
 intro f hf
 obtain ⟨j,hj,rfl⟩:=List.mem_iff_getElem.1 hf
 have:=h j hj
 simp [List.getD,hj] at this
 simp [this]
theorem ixA_none (h:∀ j,j < l.length → p (l.getD j default) = false):ixA p l = -1:=by
 unfold ixA
 rw [anyA_none h]
 rfl
theorem ixA_at {i:Int} (h:ixA p l = i) (h0:0 ≤ i):i.toNat < l.length ∧ i = (i.toNat:Int) ∧ p (l.getD i.toNat default) = true:=by
 unfold ixA at h
 split at h
 ·rename_i ha
  have hl:=List.findIdx_lt_length_of_exists (p:=p) (xs:=l) (by simpa using ha)
  subst h
  refine ⟨by simpa using hl,by simp,?_⟩
  rw [Int.toNat_natCast]
  have:=List.findIdx_getElem (p:=p) (xs:=l) (w:=hl)
  simpa [List.getD,hl] using this
 ·omega
end

/-! ### rows of structs -/
theorem flat_get {α:Type} (enc:α → List Value) (k:Nat) (hk:∀ a,(enc a).length = k):∀ (l:List α) (i j:Nat) (hi:i < l.length),j < k → (l.flatMap enc)[i * k + j]? = (enc l[i])[j]?
 | a :: l,0,j,_,hj => by
   rw [List.flatMap_cons,List.getElem?_append_left (by rw [hk];omega)]
   simp
 | a :: l,i + 1,j,hi,hj => by
   rw [List.flatMap_cons,List.getElem?_append_right (by rw [hk];rw [Nat.succ_mul];omega),hk]
   rw [show (i + 1) * k + j - k = i * k + j by rw [Nat.succ_mul];omega]
   exact flat_get enc k hk l i j (by simpa using hi) hj
theorem flat_len {α:Type} (enc:α → List Value) (k:Nat) (hk:∀ a,(enc a).length = k) (l:List α):(l.flatMap enc).length = l.length * k:=by
 induction l with
 | nil => simp
 | cons a l ih => rw [List.flatMap_cons,List.length_append,ih,hk,List.length_cons,Nat.succ_mul];omega
theorem Rd.el {α:Type} [Inhabited α] (enc:α → List Value) (k:Nat) (hk:∀ a,(enc a).length = k) {w:World} {B n c:Nat} {A:Option Addr} {l:List α} (h:Rd w B k A n c (l.flatMap enc)) {i:Nat} (hi:i < l.length) (hk0:0 < k) :
 ∃ b off,A = some ⟨b,off,none⟩ ∧ b < B ∧ ∀ j v,(enc (l.getD i default))[j]? = some v → w.cell? ⟨b,off + i * k + j,none⟩ = some v:=by
 have hn:n = l.length:=by
  have:=h.len
  rw [flat_len enc k hk] at this
  exact (Nat.eq_of_mul_eq_mul_right hk0 this).symm
 obtain ⟨b,off,rfl,hb,hc⟩:=h.at_ (by omega)
 refine ⟨b,off,rfl,hb,fun j v hj => ?_⟩
 rw [Nat.add_assoc]
 refine hc _ v ?_
 have hjk:j < k:=by
  have:=(List.getElem?_eq_some_iff.1 hj).1
  rw [hk] at this
  exact this
 rw [flat_get enc k hk l i j hi hjk,← hj]
 simp [List.getD,hi]
theorem Rd.lenA {α:Type} (enc:α → List Value) (k:Nat) (hk:∀ a,(enc a).length = k) {w:World} {B n c:Nat} {A:Option Addr} {l:List α} (h:Rd w B k A n c (l.flatMap enc)) (hk0:0 < k):n = l.length:=by
 have:=h.len
 rw [flat_len enc k hk] at this
 exact (Nat.eq_of_mul_eq_mul_right hk0 this).symm

/-! ### snapshots, schemas -/
structure Sn where
 id:UInt64
 par:UInt64
 seq:UInt64
 off:UInt64
 tim:UInt64
 sch:UInt32
 ms:List ByteArray
instance:Inhabited Sn:=⟨⟨0,0,0,0,0,0,[]⟩⟩
structure Nl where
 p:Sn
 A:Option Addr
 c:Nat
instance:Inhabited Nl:=⟨⟨default,none,0⟩⟩
structure Sl where
 id:UInt32
 fs:List Fd
 A:Option Addr
 c:Nat
instance:Inhabited Sl:=⟨⟨0,[],none,0⟩⟩
def nlV (s:Nl):List Value:=[.int .u64 (s.p.id.toNat:Int),.int .u64 (s.p.par.toNat:Int),.int .u64 (s.p.seq.toNat:Int),.int .u64 (s.p.off.toNat:Int),.int .u64 (s.p.tim.toNat:Int),.int .u32 (s.p.sch.toNat:Int),.slice s.A s.p.ms.length s.c]
def nlsV (l:List Nl):List Value:=l.flatMap nlV
def slV (s:Sl):List Value:=[.int .u32 (s.id.toNat:Int),.slice s.A s.fs.length s.c]
def slsV (l:List Sl):List Value:=l.flatMap slV
theorem nlV_length (s:Nl):(nlV s).length = 7:=rfl
theorem slV_length (s:Sl):(slV s).length = 2:=rfl
theorem nlsV_append (a b:List Nl):nlsV (a ++ b) = nlsV a ++ nlsV b:=by simp [nlsV]
theorem slsV_append (a b:List Sl):slsV (a ++ b) = slsV a ++ slsV b:=by simp [slsV]
theorem nlV_one (s:Nl):∀ u ∈ nlV s,u.oneCell' = true:=by
 intro u hu
 simp [nlV] at hu
 rcases hu with rfl | rfl | rfl | rfl | rfl | rfl | rfl <;> rfl
theorem slV_one (s:Sl):∀ u ∈ slV s,u.oneCell' = true:=by
 intro u hu
 simp [slV] at hu
 rcases hu with rfl | rfl <;> rfl
section
variable {w w':World} {B n c:Nat} {A:Option Addr}
theorem Rd.lenN {l:List Nl} (h:Rd w B 7 A n c (nlsV l)):n = l.length:=h.lenA nlV 7 nlV_length (by omega)
theorem Rd.lenS {l:List Sl} (h:Rd w B 2 A n c (slsV l)):n = l.length:=h.lenA slV 2 slV_length (by omega)
theorem Rd.nl {l:List Nl} (h:Rd w B 7 A n c (nlsV l)) {i:Nat} (hi:i < l.length):∃ b off,A = some ⟨b,off,none⟩ ∧ b < B ∧
 w.cell? ⟨b,off + i * 7,none⟩ = some (.int .u64 ((l.getD i default).p.id.toNat:Int)) ∧ w.cell? ⟨b,off + i * 7 + 1,none⟩ = some (.int .u64 ((l.getD i default).p.par.toNat:Int)) ∧ w.cell? ⟨b,off + i * 7 + 2,none⟩ = some (.int .u64 ((l.getD i default).p.seq.toNat:Int)) ∧
 w.cell? ⟨b,off + i * 7 + 3,none⟩ = some (.int .u64 ((l.getD i default).p.off.toNat:Int)) ∧ w.cell? ⟨b,off + i * 7 + 4,none⟩ = some (.int .u64 ((l.getD i default).p.tim.toNat:Int)) ∧ w.cell? ⟨b,off + i * 7 + 5,none⟩ = some (.int .u32 ((l.getD i default).p.sch.toNat:Int)) ∧
 w.cell? ⟨b,off + i * 7 + 6,none⟩ = some (.slice (l.getD i default).A (l.getD i default).p.ms.length (l.getD i default).c):=by
 obtain ⟨b,off,rfl,hb,hc⟩:=h.el nlV 7 nlV_length hi (by omega)
 exact ⟨b,off,rfl,hb,hc 0 _ rfl,hc 1 _ rfl,hc 2 _ rfl,hc 3 _ rfl,hc 4 _ rfl,hc 5 _ rfl,hc 6 _ rfl⟩
theorem Rd.sl {l:List Sl} (h:Rd w B 2 A n c (slsV l)) {i:Nat} (hi:i < l.length):∃ b off,A = some ⟨b,off,none⟩ ∧ b < B ∧
 w.cell? ⟨b,off + i * 2,none⟩ = some (.int .u32 ((l.getD i default).id.toNat:Int)) ∧ w.cell? ⟨b,off + i * 2 + 1,none⟩ = some (.slice (l.getD i default).A (l.getD i default).fs.length (l.getD i default).c):=by
 obtain ⟨b,off,rfl,hb,hc⟩:=h.el slV 2 slV_length hi (by omega)
 exact ⟨b,off,rfl,hb,hc 0 _ rfl,hc 1 _ rfl⟩
end
/-- a table's rows -/
structure TabR (w:World) (B:Nat) (sA:Option Addr) (sc:Nat) (ss:List Sl) (nA:Option Addr) (nc:Nat) (ns:List Nl):Prop where
 srow:Rd w B 2 sA ss.length sc (slsV ss)
 sin:∀ s ∈ ss,Rd w B 4 s.A s.fs.length s.c (fdsV s.fs)
 nrow:Rd w B 7 nA ns.length nc (nlsV ns)
 nin:∀ s ∈ ns,Rd w B 1 s.A s.p.ms.length s.c (strsV s.p.ms)
section
variable {w w':World} {B B' sc nc:Nat} {sA nA:Option Addr} {ss:List Sl} {ns:List Nl}
theorem TabR.below (h:TabR w B sA sc ss nA nc ns) (hb:Below B w w'):TabR w' B sA sc ss nA nc ns:=⟨h.srow.below hb,fun s hs => (h.sin s hs).below hb,h.nrow.below hb,fun s hs => (h.nin s hs).below hb⟩
theorem TabR.more (h:TabR w B sA sc ss nA nc ns) (hB:B ≤ B'):TabR w B' sA sc ss nA nc ns:=⟨h.srow.more hB,fun s hs => (h.sin s hs).more hB,h.nrow.more hB,fun s hs => (h.nin s hs).more hB⟩
theorem TabR.later (h:TabR w w.heap.size sA sc ss nA nc ns) (hb:Below w.heap.size w w'):TabR w' w'.heap.size sA sc ss nA nc ns:=(h.below hb).more hb.size
theorem getD_mem {α:Type} [Inhabited α] {l:List α} {i:Nat} (hi:i < l.length):l.getD i default ∈ l:=by
 simp [List.getD,hi]
theorem TabR.s_at (h:TabR w B sA sc ss nA nc ns) {i:Nat} (hi:i < ss.length):Rd w B 4 (ss.getD i default).A (ss.getD i default).fs.length (ss.getD i default).c (fdsV (ss.getD i default).fs):=h.sin _ (getD_mem hi)
theorem TabR.n_at (h:TabR w B sA sc ss nA nc ns) {i:Nat} (hi:i < ns.length):Rd w B 1 (ns.getD i default).A (ns.getD i default).p.ms.length (ns.getD i default).c (strsV (ns.getD i default).p.ms):=h.nin _ (getD_mem hi)
end
theorem tyStrs:STy Tryz.prog 41 9 1 16 (.string ByteArray.empty):=⟨Tryz.underlying41,by kernel_rfl,rfl,by decide,by decide⟩
theorem tySnaps:STy Tryz.prog 37 43 7 72 (.agg #[.int .u64 0,.int .u64 0,.int .u64 0,.int .u64 0,.int .u64 0,.int .u32 0,.slice none 0 0]):=⟨Tryz.underlying37,by kernel_rfl,rfl,by decide,by decide⟩
theorem tySchs:STy Tryz.prog 36 33 2 32 (.agg #[.int .u32 0,.slice none 0 0]):=⟨Tryz.underlying36,by kernel_rfl,rfl,by decide,by decide⟩
theorem strsV_one (l:List ByteArray):∀ u ∈ strsV l,u.oneCell' = true:=by
 intro u hu
 simp [strsV] at hu
 obtain ⟨a,_,rfl⟩:=hu
 rfl
end


/-- two fields: the same? -/
def fdEq (f g:Fd):Bool:=((f.id.toNat:Int) == (g.id.toNat:Int)) && ((f.name.toList == g.name.toList) && (((f.kind.toNat:Int) == (g.kind.toNat:Int)) && (f.need == g.need)))
theorem neq_fd (f g:Fd) (w:World):(binOp .neq 89 (.agg #[.int .u32 (f.id.toNat:Int),.string f.name,.int .u8 (f.kind.toNat:Int),.bool f.need]) (.agg #[.int .u32 (g.id.toNat:Int),.string g.name,.int .u8 (g.kind.toNat:Int),.bool g.need])).run Tryz.prog w = .ok (.bool (!fdEq f g)) w:=by
 rw [run_neq_struct]
 unfold fdEq
 cases h1:((f.id.toNat:Int) == (g.id.toNat:Int)) <;> cases h2:(f.name.toList == g.name.toList) <;> cases h3:((f.kind.toNat:Int) == (g.kind.toNat:Int)) <;> cases h4:(f.need == g.need) <;> go_simp

section
open Go.RowKit

def u64sV (l:List UInt64):List Value:=l.map fun x => .int .u64 (x.toNat:Int)
section
variable {w:World} {B n c:Nat} {A:Option Addr}
theorem Rd.lenU {l:List UInt64} (h:Rd w B 1 A n c (u64sV l)):n = l.length:=by
 have:=h.len
 simp [u64sV] at this
 omega
theorem Rd.u64 {l:List UInt64} (h:Rd w B 1 A n c (u64sV l)) {k:Nat} (hk:k < l.length):∃ b off,A = some ⟨b,off,none⟩ ∧ b < B ∧ w.cell? ⟨b,off + k,none⟩ = some (.int .u64 ((l.getD k default).toNat:Int)):=by
 obtain ⟨b,off,e,hb,hc⟩:=h.cellAt (k:=k) (by simp [u64sV];exact hk)
 refine ⟨b,off,e,hb,hc.trans ?_⟩
 simp [u64sV,List.getD,hk]
end

theorem indexU (w:World) (B n c:Nat) (A:Option Addr) (l:List UInt64) (hr:Rd w B 1 A n c (u64sV l)) (hmax:l.length ≤ 1000000) (x:UInt64) :
 Calls Tryz.prog 156 #[.slice A n c,.int .u64 (x.toNat:Int)] w fun e w' => e = .returned (.int .i64 (ixA (fun y => (x.toNat:Int) == (y.toNat:Int)) l)) ∧ w = w':=by
 obtain rfl:=hr.lenU
 go_enter Tryz.func156,Tryz.ntmps156
 go_wp2
 go_loop [8] (fun iv => ∃ k:Nat,k ≤ l.length ∧ iv = .int .i64 (k:Int) ∧ Hid (∀ j,j < k → (fun y => (x.toNat:Int) == (y.toNat:Int)) (l.getD j default) = false)) (fun iv => l.length - (intOf iv).toNat)
 case atStart => exact ⟨0,Nat.zero_le _,rfl,hide (fun j h => by omega)⟩
 case round =>
  obtain ⟨k,hk,rfl,hf⟩:=hrel
  by_cases hlt:k < l.length
  ·obtain ⟨b,off,rfl,hb,f0⟩:=hr.u64 hlt
   cases hq:(fun y => (x.toNat:Int) == (y.toNat:Int)) (l.getD k default) with
   | true =>
     have HI:Hid (ixA (fun y => (x.toNat:Int) == (y.toNat:Int)) l = (k:Int)):=hide (ixA_hit hlt hq hf.out)
     dsimp only at hq
     generalize l.getD k default = y at *
     go_wp2
     go_ret
     exact ⟨by rw [HI.out];rfl,rfl⟩
   | false =>
     have HQ:=hide hq
     dsimp only at hq
     generalize hx:l.getD k default = y at *
     have HX:=hide hx
     clear hx
     go_wp2
     go_round
     case rel =>
      refine ⟨k + 1,by omega,by go_num,hide (fun j hj => ?_)⟩
      by_cases e:j = k
      ·rw [e,HX.out];exact HQ.out
      ·exact hf.out j (by omega)
     case measure => simp [intOf];omega
  ·have HI:Hid (ixA (fun y => (x.toNat:Int) == (y.toNat:Int)) l = -1):=hide (ixA_none fun j hj => hf.out j (by omega))
   go_wp2
   go_ret
   exact ⟨by rw [HI.out];rfl,rfl⟩
theorem containsU (w:World) (B n c:Nat) (A:Option Addr) (l:List UInt64) (hr:Rd w B 1 A n c (u64sV l)) (hmax:l.length ≤ 1000000) (x:UInt64) :
 Calls Tryz.prog 87 #[.slice A n c,.int .u64 (x.toNat:Int)] w fun e w' => e = .returned (.bool (l.any fun y => (x.toNat:Int) == (y.toNat:Int))) ∧ w = w':=by
 have hc:=indexU w B n c A l hr hmax x
 rw [← ixA_ge]
 generalize ixA (fun y => (x.toNat:Int) == (y.toNat:Int)) l = r at *
 clear hr
 go_enter Tryz.func87,Tryz.ntmps87
 go_wp2_with fail
 refine hc.mono ?_
 rintro e w' ⟨rfl,rfl⟩
 go_wp2_with fail
 go_ret
 exact ⟨rfl,rfl⟩

theorem indexT (w:World) (B n c:Nat) (A:Option Addr) (l:List ByteArray) (hr:Rd w B 1 A n c (strsV l)) (hmax:l.length ≤ 1000000) (x:ByteArray) :
 Calls Tryz.prog 159 #[.slice A n c,.string x] w fun e w' => e = .returned (.int .i64 (ixA (fun y => x.toList == y.toList) l)) ∧ w = w':=by
 obtain rfl:=hr.lenT
 go_enter Tryz.func159,Tryz.ntmps159
 go_wp2
 go_loop [8] (fun iv => ∃ k:Nat,k ≤ l.length ∧ iv = .int .i64 (k:Int) ∧ Hid (∀ j,j < k → (fun y => x.toList == y.toList) (l.getD j default) = false)) (fun iv => l.length - (intOf iv).toNat)
 case atStart => exact ⟨0,Nat.zero_le _,rfl,hide (fun j h => by omega)⟩
 case round =>
  obtain ⟨k,hk,rfl,hf⟩:=hrel
  by_cases hlt:k < l.length
  ·obtain ⟨b,off,rfl,hb,f0⟩:=hr.st hlt
   cases hq:(fun y => x.toList == y.toList) (l.getD k default) with
   | true =>
     have HI:Hid (ixA (fun y => x.toList == y.toList) l = (k:Int)):=hide (ixA_hit hlt hq hf.out)
     dsimp only at hq
     generalize l.getD k default = y at *
     go_wp2
     go_ret
     exact ⟨by rw [HI.out];rfl,rfl⟩
   | false =>
     have HQ:=hide hq
     dsimp only at hq
     generalize hx:l.getD k default = y at *
     have HX:=hide hx
     clear hx
     go_wp2
     go_round
     case rel =>
      refine ⟨k + 1,by omega,by go_num,hide (fun j hj => ?_)⟩
      by_cases e:j = k
      ·rw [e,HX.out];exact HQ.out
      ·exact hf.out j (by omega)
     case measure => simp [intOf];omega
  ·have HI:Hid (ixA (fun y => x.toList == y.toList) l = -1):=hide (ixA_none fun j hj => hf.out j (by omega))
   go_wp2
   go_ret
   exact ⟨by rw [HI.out];rfl,rfl⟩
theorem containsT (w:World) (B n c:Nat) (A:Option Addr) (l:List ByteArray) (hr:Rd w B 1 A n c (strsV l)) (hmax:l.length ≤ 1000000) (x:ByteArray) :
 Calls Tryz.prog 100 #[.slice A n c,.string x] w fun e w' => e = .returned (.bool (l.any fun y => x.toList == y.toList)) ∧ w = w':=by
 have hc:=indexT w B n c A l hr hmax x
 rw [← ixA_ge]
 generalize ixA (fun y => x.toList == y.toList) l = r at *
 clear hr
 go_enter Tryz.func100,Tryz.ntmps100
 go_wp2_with fail
 refine hc.mono ?_
 rintro e w' ⟨rfl,rfl⟩
 go_wp2_with fail
 go_ret
 exact ⟨rfl,rfl⟩
end


def okP (b:Nat):Bool:=decide (97 ≤ b ∧ b ≤ 122 ∨ 48 ≤ b ∧ b ≤ 57 ∨ b = 47 ∨ b = 45)
def pathAt (s:ByteArray) (p:Nat):Bool:=okP (sgn s p)
def pathOk (s:ByteArray):Bool:=decide (1 ≤ s.size) && decide (s.size ≤ 24) && allFrom s (pathAt s) s.size 0
theorem pathOk_short {s:ByteArray} (h:s.size < 1):pathOk s = false:=by unfold pathOk;rw [decide_eq_false (by omega)];rfl
theorem pathOk_long {s:ByteArray} (h:24 < s.size):pathOk s = false:=by unfold pathOk;rw [decide_eq_false (show ¬ s.size ≤ 24 by omega)];simp
theorem pathOk_mid {s:ByteArray} (h:1 ≤ s.size) (h2:s.size ≤ 24):pathOk s = allFrom s (pathAt s) s.size 0:=by unfold pathOk;rw [decide_eq_true h,decide_eq_true h2];rfl
theorem pathAt_eq (s:ByteArray) (p c:Nat) (h:sgn s p = c):pathAt s p = decide (97 ≤ c ∧ c ≤ 122 ∨ 48 ≤ c ∧ c ≤ 57 ∨ c = 47 ∨ c = 45):=by subst h;rfl

set_option maxHeartbeats 1000000 in
theorem metaNamed (w:World) (s:ByteArray):Calls Tryz.prog 203 #[.string s] w fun e w' => e = .returned (.bool (pathOk s)) ∧ Below w.heap.size w w':=by
 by_cases h1:s.size < 1
 ·rw [pathOk_short h1]
  have t1:decide ((s.size:Int) < 1) = true:=decide_eq_true (by omega)
  clear h1
  go_enter Tryz.func203,Tryz.ntmps203
  go_wp2_with fail
  go_ret
  exact ⟨rfl,Below.refl _ _⟩
 ·have t1:decide ((s.size:Int) < 1) = false:=decide_eq_false (by omega)
  by_cases h2:24 < s.size
  ·rw [pathOk_long h2]
   have t2:decide ((24:Int) < (s.size:Int)) = true:=decide_eq_true (by omega)
   clear h1 h2
   go_enter Tryz.func203,Tryz.ntmps203
   go_wp2_with fail
   go_ret
   exact ⟨rfl,Below.refl _ _⟩
  ·have t2:decide ((24:Int) < (s.size:Int)) = false:=decide_eq_false (by omega)
   rw [pathOk_mid (by omega) (by omega)]
   have hsz:s.size ≤ 24:=by omega
   obtain ⟨res,hres⟩:∃ res,res = allFrom s (pathAt s) s.size 0:=⟨_,rfl⟩
   rw [← hres]
   have HRES:=hide hres
   clear h1 h2 hres
   go_enter Tryz.func203,Tryz.ntmps203
   go_wp2_with fail
   go_loopw [4] (fun _ w' => ∃ (pos b:Nat),w' = w.iter s pos ∧ Hid (allFrom s (pathAt s) b pos = res) ∧ s.size ≤ pos + b) (fun _ w' => s.size - w'.iterPos w.heap.size)
   case atStart => exact ⟨0,s.size,rfl,hide HRES.out.symm,by omega⟩
   case round =>
    obtain ⟨pos,b,rfl,hc,hb⟩:=hrel
    by_cases hp:pos < s.size
    ·have hnx:∀ ty,(Instr.next (.pointer (some ⟨w.heap.size,0,none⟩)) true ty).run Tryz.prog (w.iter s pos) = .ok (.tuple #[.bool true,.int .i64 pos,.int .i32 (sgn s pos:Int)]) (w.iter s (pos + wid s pos)):=fun ty => run_next_any w s pos ty hp
     have hwp:=wid_pos s pos hp
     have HM:=hide (show s.size - (pos + wid s pos) < s.size - pos by omega)
     have HP:=hide hp
     have HB:=hide hb
     clear hb
     generalize hcc:sgn s pos = c at *
     have HCC:=hide hcc
     clear hcc hwp hp
     rcases (show (c < 45) ∨ (c = 45) ∨ (c = 46) ∨ (c = 47) ∨ (48 ≤ c ∧ c ≤ 57) ∨ (58 ≤ c ∧ c ≤ 96) ∨ (97 ≤ c ∧ c ≤ 122) ∨ (123 ≤ c) by omega) with g | g | g | g | g | g | g | g
     ·have a1:decide ((97:Int) ≤ (c:Int)) = false:=decide_eq_false (by omega)
      have a2:decide ((c:Int) ≤ 122) = true:=decide_eq_true (by omega)
      have a3:decide ((48:Int) ≤ (c:Int)) = false:=decide_eq_false (by omega)
      have a4:decide ((c:Int) ≤ 57) = true:=decide_eq_true (by omega)
      have a5:((c:Int) == 47) = false:=by rw [beq_eq_false_iff_ne];omega
      have a6:((c:Int) == 45) = false:=by rw [beq_eq_false_iff_ne];omega
      have HO:Hid (pathAt s pos = false):=hide (by rw [pathAt_eq s pos c HCC.out];exact decide_eq_false (by omega))
      have HG:=hide g
      clear g
      go_wp2_with fail
      go_ret
      have he:=hc.out
      rw [allFrom_no s _ b pos HP.out HB.out HO.out] at he
      exact ⟨by rw [← he];rfl,(Below.refl _ _).alloc (Nat.le_refl _) _⟩
     ·have a1:decide ((97:Int) ≤ (c:Int)) = false:=decide_eq_false (by omega)
      have a2:decide ((c:Int) ≤ 122) = true:=decide_eq_true (by omega)
      have a3:decide ((48:Int) ≤ (c:Int)) = false:=decide_eq_false (by omega)
      have a4:decide ((c:Int) ≤ 57) = true:=decide_eq_true (by omega)
      have a5:((c:Int) == 47) = false:=by rw [beq_eq_false_iff_ne];omega
      have a6:((c:Int) == 45) = true:=by rw [beq_iff_eq];omega
      have HO:Hid (pathAt s pos = true):=hide (by rw [pathAt_eq s pos c HCC.out];exact decide_eq_true (by omega))
      have HG:=hide g
      clear g
      go_wp2_with fail
      go_roundw
      case rel =>
       obtain ⟨b',h1,h2⟩:=allFrom_yes s _ b pos HP.out HB.out HO.out
       exact ⟨_,b',rfl,hide (h1 ▸ hc.out),h2⟩
      case measure => simpa using HM.out
     ·have a1:decide ((97:Int) ≤ (c:Int)) = false:=decide_eq_false (by omega)
      have a2:decide ((c:Int) ≤ 122) = true:=decide_eq_true (by omega)
      have a3:decide ((48:Int) ≤ (c:Int)) = false:=decide_eq_false (by omega)
      have a4:decide ((c:Int) ≤ 57) = true:=decide_eq_true (by omega)
      have a5:((c:Int) == 47) = false:=by rw [beq_eq_false_iff_ne];omega
      have a6:((c:Int) == 45) = false:=by rw [beq_eq_false_iff_ne];omega
      have HO:Hid (pathAt s pos = false):=hide (by rw [pathAt_eq s pos c HCC.out];exact decide_eq_false (by omega))
      have HG:=hide g
      clear g
      go_wp2_with fail
      go_ret
      have he:=hc.out
      rw [allFrom_no s _ b pos HP.out HB.out HO.out] at he
      exact ⟨by rw [← he];rfl,(Below.refl _ _).alloc (Nat.le_refl _) _⟩
     ·have a1:decide ((97:Int) ≤ (c:Int)) = false:=decide_eq_false (by omega)
      have a2:decide ((c:Int) ≤ 122) = true:=decide_eq_true (by omega)
      have a3:decide ((48:Int) ≤ (c:Int)) = false:=decide_eq_false (by omega)
      have a4:decide ((c:Int) ≤ 57) = true:=decide_eq_true (by omega)
      have a5:((c:Int) == 47) = true:=by rw [beq_iff_eq];omega
      have a6:((c:Int) == 45) = false:=by rw [beq_eq_false_iff_ne];omega
      have HO:Hid (pathAt s pos = true):=hide (by rw [pathAt_eq s pos c HCC.out];exact decide_eq_true (by omega))
      have HG:=hide g
      clear g
      go_wp2_with fail
      go_roundw
      case rel =>
       obtain ⟨b',h1,h2⟩:=allFrom_yes s _ b pos HP.out HB.out HO.out
       exact ⟨_,b',rfl,hide (h1 ▸ hc.out),h2⟩
      case measure => simpa using HM.out
     ·have a1:decide ((97:Int) ≤ (c:Int)) = false:=decide_eq_false (by omega)
      have a2:decide ((c:Int) ≤ 122) = true:=decide_eq_true (by omega)
      have a3:decide ((48:Int) ≤ (c:Int)) = true:=decide_eq_true (by omega)
      have a4:decide ((c:Int) ≤ 57) = true:=decide_eq_true (by omega)
      have a5:((c:Int) == 47) = false:=by rw [beq_eq_false_iff_ne];omega
      have a6:((c:Int) == 45) = false:=by rw [beq_eq_false_iff_ne];omega
      have HO:Hid (pathAt s pos = true):=hide (by rw [pathAt_eq s pos c HCC.out];exact decide_eq_true (by omega))
      have HG:=hide g
      clear g
      go_wp2_with fail
      go_roundw
      case rel =>
       obtain ⟨b',h1,h2⟩:=allFrom_yes s _ b pos HP.out HB.out HO.out
       exact ⟨_,b',rfl,hide (h1 ▸ hc.out),h2⟩
      case measure => simpa using HM.out
     ·have a1:decide ((97:Int) ≤ (c:Int)) = false:=decide_eq_false (by omega)
      have a2:decide ((c:Int) ≤ 122) = true:=decide_eq_true (by omega)
      have a3:decide ((48:Int) ≤ (c:Int)) = true:=decide_eq_true (by omega)
      have a4:decide ((c:Int) ≤ 57) = false:=decide_eq_false (by omega)
      have a5:((c:Int) == 47) = false:=by rw [beq_eq_false_iff_ne];omega
      have a6:((c:Int) == 45) = false:=by rw [beq_eq_false_iff_ne];omega
      have HO:Hid (pathAt s pos = false):=hide (by rw [pathAt_eq s pos c HCC.out];exact decide_eq_false (by omega))
      have HG:=hide g
      clear g
      go_wp2_with fail
      go_ret
      have he:=hc.out
      rw [allFrom_no s _ b pos HP.out HB.out HO.out] at he
      exact ⟨by rw [← he];rfl,(Below.refl _ _).alloc (Nat.le_refl _) _⟩
     ·have a1:decide ((97:Int) ≤ (c:Int)) = true:=decide_eq_true (by omega)
      have a2:decide ((c:Int) ≤ 122) = true:=decide_eq_true (by omega)
      have a3:decide ((48:Int) ≤ (c:Int)) = true:=decide_eq_true (by omega)
      have a4:decide ((c:Int) ≤ 57) = false:=decide_eq_false (by omega)
      have a5:((c:Int) == 47) = false:=by rw [beq_eq_false_iff_ne];omega
      have a6:((c:Int) == 45) = false:=by rw [beq_eq_false_iff_ne];omega
      have HO:Hid (pathAt s pos = true):=hide (by rw [pathAt_eq s pos c HCC.out];exact decide_eq_true (by omega))
      have HG:=hide g
      clear g
      go_wp2_with fail
      go_roundw
      case rel =>
       obtain ⟨b',h1,h2⟩:=allFrom_yes s _ b pos HP.out HB.out HO.out
       exact ⟨_,b',rfl,hide (h1 ▸ hc.out),h2⟩
      case measure => simpa using HM.out
     ·have a1:decide ((97:Int) ≤ (c:Int)) = true:=decide_eq_true (by omega)
      have a2:decide ((c:Int) ≤ 122) = false:=decide_eq_false (by omega)
      have a3:decide ((48:Int) ≤ (c:Int)) = true:=decide_eq_true (by omega)
      have a4:decide ((c:Int) ≤ 57) = false:=decide_eq_false (by omega)
      have a5:((c:Int) == 47) = false:=by rw [beq_eq_false_iff_ne];omega
      have a6:((c:Int) == 45) = false:=by rw [beq_eq_false_iff_ne];omega
      have HO:Hid (pathAt s pos = false):=hide (by rw [pathAt_eq s pos c HCC.out];exact decide_eq_false (by omega))
      have HG:=hide g
      clear g
      go_wp2_with fail
      go_ret
      have he:=hc.out
      rw [allFrom_no s _ b pos HP.out HB.out HO.out] at he
      exact ⟨by rw [← he];rfl,(Below.refl _ _).alloc (Nat.le_refl _) _⟩
    ·have hnx:∀ ty,(Instr.next (.pointer (some ⟨w.heap.size,0,none⟩)) true ty).run Tryz.prog (w.iter s pos) = _:=fun ty => run_next_end w s pos ty hp
     have he:=hc.out
     rw [allFrom_end s _ b pos hp] at he
     have HE:=hide he
     clear he
     go_wp2_with fail
     go_ret
     exact ⟨by rw [← HE.out];rfl,(Below.refl _ _).alloc (Nat.le_refl _) _⟩

section
open Go.RowKit

/-- what a closure gives, whatever was laid meanwhile -/
def PredN (w:World) (g:Nat) (lb:Array Value) (p:Nl → Bool):Prop :=
 ∀ (W:World) (f:Nl),Below w.heap.size w W → Calls Tryz.prog g (#[.agg #[.int .u64 (f.p.id.toNat:Int),.int .u64 (f.p.par.toNat:Int),.int .u64 (f.p.seq.toNat:Int),.int .u64 (f.p.off.toNat:Int),.int .u64 (f.p.tim.toNat:Int),.int .u32 (f.p.sch.toNat:Int),.slice f.A f.p.ms.length f.c]] ++ lb) W fun e w' => e = .returned (.bool (p f)) ∧ Below w.heap.size w w'
set_option maxHeartbeats 1000000 in
theorem indexN (w:World) (n c:Nat) (A:Option Addr) (l:List Nl) (hr:Rd w w.heap.size 7 A n c (nlsV l)) (hmax:l.length ≤ 1000000) (g:Nat) (lb:Array Value) (p:Nl → Bool)
 (eg:∀ args w,(callFunc g args).run Tryz.prog w = .ok (.enter g args) w) (hp:PredN w g lb p) :
 Calls Tryz.prog 143 #[.slice A n c,.func (.func g) #[] lb] w fun e w' => e = .returned (.int .i64 (ixA p l)) ∧ Below w.heap.size w w':=by
 obtain rfl:=hr.lenN
 go_enter Tryz.func143,Tryz.ntmps143
 go_wp2_with fail
 go_loopw [5,8] (fun _ kv wr => ∃ k:Nat,k ≤ l.length ∧ kv = .int .i64 (k:Int) ∧ Hid (∀ j,j < k → p (l.getD j default) = false) ∧ Hid (Below w.heap.size w wr)) (fun _ kv _ => l.length - (intOf kv).toNat)
 case atStart => exact ⟨0,Nat.zero_le _,rfl,hide (fun j h => by omega),hide (Below.refl _ _)⟩
 case round =>
  obtain ⟨k,hk,rfl,hf,hbr⟩:=hrel
  by_cases hlt:k < l.length
  ·obtain ⟨b,off,rfl,hb,f0,f1,f2,f3,f4,f5,f6⟩:=(hr.below hbr.out).nl hlt
   have hcall:=hp wr (l.getD k default) hbr.out
   generalize hff:l.getD k default = f at *
   have HF:=hide hff
   clear hff hp
   cases hq:p f with
   | true =>
     rw [hq] at hcall
     have HQ:=hide hq
     clear hq
     go_wp2_with fail
     refine hcall.mono ?_
     rintro e w' ⟨rfl,hb'⟩
     go_wp2_with fail
     go_ret
     exact ⟨by rw [ixA_hit hlt (by rw [HF.out];exact HQ.out) hf.out];rfl,hb'⟩
   | false =>
     rw [hq] at hcall
     have HQ:=hide hq
     clear hq
     go_wp2_with fail
     refine hcall.mono ?_
     rintro e w' ⟨rfl,hb'⟩
     go_wp2_with fail
     go_roundw
     case rel =>
      refine ⟨k + 1,by omega,by go_num,hide (fun j hj => ?_),hide hb'⟩
      by_cases e:j = k
      ·rw [e,HF.out];exact HQ.out
      ·exact hf.out j (by omega)
     case measure => exact meas_sub k _ hlt
  ·obtain rfl:k = l.length:=by omega
   go_wp2_with fail
   go_ret
   exact ⟨by rw [ixA_none hf.out];rfl,hbr.out⟩

/-- what a closure gives, whatever was laid meanwhile -/
def PredS (w:World) (g:Nat) (lb:Array Value) (p:Sl → Bool):Prop :=
 ∀ (W:World) (f:Sl),Below w.heap.size w W → Calls Tryz.prog g (#[.agg #[.int .u32 (f.id.toNat:Int),.slice f.A f.fs.length f.c]] ++ lb) W fun e w' => e = .returned (.bool (p f)) ∧ Below w.heap.size w w'
set_option maxHeartbeats 1000000 in
theorem indexS (w:World) (n c:Nat) (A:Option Addr) (l:List Sl) (hr:Rd w w.heap.size 2 A n c (slsV l)) (hmax:l.length ≤ 1000000) (g:Nat) (lb:Array Value) (p:Sl → Bool)
 (eg:∀ args w,(callFunc g args).run Tryz.prog w = .ok (.enter g args) w) (hp:PredS w g lb p) :
 Calls Tryz.prog 204 #[.slice A n c,.func (.func g) #[] lb] w fun e w' => e = .returned (.int .i64 (ixA p l)) ∧ Below w.heap.size w w':=by
 obtain rfl:=hr.lenS
 go_enter Tryz.func204,Tryz.ntmps204
 go_wp2_with fail
 go_loopw [5,8] (fun _ kv wr => ∃ k:Nat,k ≤ l.length ∧ kv = .int .i64 (k:Int) ∧ Hid (∀ j,j < k → p (l.getD j default) = false) ∧ Hid (Below w.heap.size w wr)) (fun _ kv _ => l.length - (intOf kv).toNat)
 case atStart => exact ⟨0,Nat.zero_le _,rfl,hide (fun j h => by omega),hide (Below.refl _ _)⟩
 case round =>
  obtain ⟨k,hk,rfl,hf,hbr⟩:=hrel
  by_cases hlt:k < l.length
  ·obtain ⟨b,off,rfl,hb,f0,f1⟩:=(hr.below hbr.out).sl hlt
   have hcall:=hp wr (l.getD k default) hbr.out
   generalize hff:l.getD k default = f at *
   have HF:=hide hff
   clear hff hp
   cases hq:p f with
   | true =>
     rw [hq] at hcall
     have HQ:=hide hq
     clear hq
     go_wp2_with fail
     refine hcall.mono ?_
     rintro e w' ⟨rfl,hb'⟩
     go_wp2_with fail
     go_ret
     exact ⟨by rw [ixA_hit hlt (by rw [HF.out];exact HQ.out) hf.out];rfl,hb'⟩
   | false =>
     rw [hq] at hcall
     have HQ:=hide hq
     clear hq
     go_wp2_with fail
     refine hcall.mono ?_
     rintro e w' ⟨rfl,hb'⟩
     go_wp2_with fail
     go_roundw
     case rel =>
      refine ⟨k + 1,by omega,by go_num,hide (fun j hj => ?_),hide hb'⟩
      by_cases e:j = k
      ·rw [e,HF.out];exact HQ.out
      ·exact hf.out j (by omega)
     case measure => exact meas_sub k _ hlt
  ·obtain rfl:k = l.length:=by omega
   go_wp2_with fail
   go_ret
   exact ⟨by rw [ixA_none hf.out];rfl,hbr.out⟩

theorem enter72:∀ args w,(callFunc 144 args).run Tryz.prog w = .ok (.enter 144 args) w:=enters_of Tryz.func144 (by kernel_rfl) rfl
theorem enter75:∀ args w,(callFunc 205 args).run Tryz.prog w = .ok (.enter 205 args) w:=enters_of Tryz.func205 (by kernel_rfl) rfl
/-- 's.Id == id', id in a box -/
theorem predSnap (w:World) (bf:Nat) (id:UInt64) (hbf:bf < w.heap.size) (hc:w.cell? ⟨bf,0,none⟩ = some (.int .u64 (id.toNat:Int))) :
 PredN w 144 #[.pointer (some ⟨bf,0,none⟩)] (fun f => (f.p.id.toNat:Int) == (id.toNat:Int)):=fun W f hb => by
 have h1:=(hb.cell (p:=⟨bf,0,none⟩) hbf).trans hc
 have hBW:bf < W.heap.size:=Nat.lt_of_lt_of_le hbf hb.size
 have hne:bf ≠ W.heap.size:=Nat.ne_of_lt hBW
 show Calls Tryz.prog 144 #[.agg #[.int .u64 (f.p.id.toNat:Int),.int .u64 (f.p.par.toNat:Int),.int .u64 (f.p.seq.toNat:Int),.int .u64 (f.p.off.toNat:Int),.int .u64 (f.p.tim.toNat:Int),.int .u32 (f.p.sch.toNat:Int),.slice f.A f.p.ms.length f.c],.pointer (some ⟨bf,0,none⟩)] W _
 clear hc
 go_enter Tryz.func144,Tryz.ntmps144
 go_wp2_with fail
 go_ret
 exact ⟨rfl,hb.alloc hb.size _⟩
theorem predShape (w:World) (bf:Nat) (id:UInt32) (hbf:bf < w.heap.size) (hc:w.cell? ⟨bf,0,none⟩ = some (.int .u32 (id.toNat:Int))) :
 PredS w 205 #[.pointer (some ⟨bf,0,none⟩)] (fun f => (f.id.toNat:Int) == (id.toNat:Int)):=fun W f hb => by
 have h1:=(hb.cell (p:=⟨bf,0,none⟩) hbf).trans hc
 have hBW:bf < W.heap.size:=Nat.lt_of_lt_of_le hbf hb.size
 have hne:bf ≠ W.heap.size:=Nat.ne_of_lt hBW
 show Calls Tryz.prog 205 #[.agg #[.int .u32 (f.id.toNat:Int),.slice f.A f.fs.length f.c],.pointer (some ⟨bf,0,none⟩)] W _
 clear hc
 go_enter Tryz.func205,Tryz.ntmps205
 go_wp2_with fail
 go_ret
 exact ⟨rfl,hb.alloc hb.size _⟩

theorem cloneS (w:World) (B n c:Nat) (A:Option Addr) (xs:List Value) (hr:Rd w B 1 A n c xs) (h1:∀ u ∈ xs,u.oneCell' = true) (hb:n * 16 ≤ 140737488355328) (hB:B ≤ w.heap.size) :
 Calls Tryz.prog 46 #[.slice A n c] w (RetRow w 9 1 n xs):=by
 have heq:=fun W => Lib.run_eql_slice_nil (P:=Tryz.prog) W 41 9 A n c 0 0 Tryz.underlying41
 cases A with
 | none =>
   obtain ⟨rfl,rfl⟩:=hr.none_
   go_enter Tryz.func46,Tryz.ntmps46
   go_wp2_with fail
   go_ret
   exact ⟨_,rfl,World.ownsRow_nil _ _ _ _,Below.refl _ _⟩
 | some ad =>
   have hlit:=own_lit w (base:=w.heap.size) 9 1 0 #[] (Nat.le_refl _) (by decide) rfl
   have hr':=hr.alloc hB (.cells #[] 9)
   go_enter Tryz.func46,Tryz.ntmps46
   go_wp2_with (at_builtin;refine wpList_app _ tyStrs rfl _ _ rfl w.heap.size _ 0 [] rfl hlit B (some ad) _ c _ rfl hr' h1 (by omega) (by simp) ?_;intro v2 w2 hown2 hg2 _;simp only [Nat.zero_add,List.nil_append] at hown2;have hb2:=below_app ((Below.refl w.heap.size w).alloc (Nat.le_refl _) (.cells #[] 9)) (Nat.le_refl _) hlit hg2 (by simp))
   go_ret
   exact ⟨v2,rfl,hown2,hb2⟩

/-! ### a snapshot as a value of its own -/
theorem load_sn (w:World) (b:Nat) (v0 v1 v2 v3 v4 v5 v6:Value) (c0:w.cell? ⟨b,0,none⟩ = some v0) (c1:w.cell? ⟨b,1,none⟩ = some v1) (c2:w.cell? ⟨b,2,none⟩ = some v2) (c3:w.cell? ⟨b,3,none⟩ = some v3) (c4:w.cell? ⟨b,4,none⟩ = some v4) (c5:w.cell? ⟨b,5,none⟩ = some v5) (c6:w.cell? ⟨b,6,none⟩ = some v6) :
 (loadVar 43 ⟨b,0,none⟩).run Tryz.prog w = .ok (.agg #[v0,v1,v2,v3,v4,v5,v6]) w:=by
 go_simp
theorem ret_sn1 {fn:Func} {p:Tmp} (h:fn.results = #[.cell p 43]) (tmps:Array Value) (w:World) {b:Nat} {v0 v1 v2 v3 v4 v5 v6:Value} (hp:tmps.getD p undef = .pointer (some ⟨b,0,none⟩)) (hb:BoxN w b [v0,v1,v2,v3,v4,v5,v6]) :
 (results fn tmps).run Tryz.prog w = .ok (.agg #[v0,v1,v2,v3,v4,v5,v6]) w:=by
 rw [results_cell h,hp]
 have:=load_sn w b _ _ _ _ _ _ _ (hb.cell 0 _ rfl) (hb.cell 1 _ rfl) (hb.cell 2 _ rfl) (hb.cell 3 _ rfl) (hb.cell 4 _ rfl) (hb.cell 5 _ rfl) (hb.cell 6 _ rfl)
 simp [asAddr,Result.andThen,this]
theorem ret_sn2 {fn:Func} {p u:Tmp} (h:fn.results = #[.cell p 43,.tmp u]) (tmps:Array Value) (w:World) {b:Nat} {v0 v1 v2 v3 v4 v5 v6:Value} (hp:tmps.getD p undef = .pointer (some ⟨b,0,none⟩)) (hb:BoxN w b [v0,v1,v2,v3,v4,v5,v6]) :
 (results fn tmps).run Tryz.prog w = .ok (.tuple #[.agg #[v0,v1,v2,v3,v4,v5,v6],tmps.getD u undef]) w:=by
 rw [results_cell_tmp h,hp]
 have:=load_sn w b _ _ _ _ _ _ _ (hb.cell 0 _ rfl) (hb.cell 1 _ rfl) (hb.cell 2 _ rfl) (hb.cell 3 _ rfl) (hb.cell 4 _ rfl) (hb.cell 5 _ rfl) (hb.cell 6 _ rfl)
 simp [asAddr,Result.andThen,this]
/-- seven cells laid into a box -/
def set7 (w:World) (b:Nat) (v0 v1 v2 v3 v4 v5 v6:Value):World:=((((((w.setCell ⟨b,0,none⟩ v0).setCell ⟨b,1,none⟩ v1).setCell ⟨b,2,none⟩ v2).setCell ⟨b,3,none⟩ v3).setCell ⟨b,4,none⟩ v4).setCell ⟨b,5,none⟩ v5).setCell ⟨b,6,none⟩ v6
section
variable {w:World} {b:Nat} {v0 v1 v2 v3 v4 v5 v6:Value}
theorem BoxN.set7 {u0 u1 u2 u3 u4 u5 u6:Value} (h:BoxN w b [u0,u1,u2,u3,u4,u5,u6]):BoxN (set7 w b v0 v1 v2 v3 v4 v5 v6) b [v0,v1,v2,v3,v4,v5,v6] :=
 ((((((h.set (j:=0) v0 rfl).set (j:=1) v1 rfl).set (j:=2) v2 rfl).set (j:=3) v3 rfl).set (j:=4) v4 rfl).set (j:=5) v5 rfl).set (j:=6) v6 rfl
theorem own_set7 {base:Nat} {e:TypeId} {sz n:Nat} {v:Value} {xs:List Value} (h:w.ownsRow base e sz v n xs) (hb:b < base):(set7 w b v0 v1 v2 v3 v4 v5 v6).ownsRow base e sz v n xs:=by
 unfold Go.Proofs.YtpfofefecamkfaaGreatDoor.set7
 exact ownsRow_setCell_below (ownsRow_setCell_below (ownsRow_setCell_below (ownsRow_setCell_below (ownsRow_setCell_below (ownsRow_setCell_below (ownsRow_setCell_below h (a:=⟨b,0,none⟩) hb _) (a:=⟨b,1,none⟩) hb _) (a:=⟨b,2,none⟩) hb _) (a:=⟨b,3,none⟩) hb _) (a:=⟨b,4,none⟩) hb _) (a:=⟨b,5,none⟩) hb _) (a:=⟨b,6,none⟩) hb _
theorem below_set7 {B:Nat} {w0:World} (h:Below B w0 w) (hb:B ≤ b):Below B w0 (set7 w b v0 v1 v2 v3 v4 v5 v6) :=
 ((((((h.setCell (p:=⟨b,0,none⟩) hb _).setCell (p:=⟨b,1,none⟩) hb _).setCell (p:=⟨b,2,none⟩) hb _).setCell (p:=⟨b,3,none⟩) hb _).setCell (p:=⟨b,4,none⟩) hb _).setCell (p:=⟨b,5,none⟩) hb _).setCell (p:=⟨b,6,none⟩) hb _
end
/-- a snapshot with texts of its own -/
def OwnEnd (w:World) (p:Sn) (e:Ending) (w':World):Prop :=
 ∃ A c,e = .returned (.agg #[.int .u64 (p.id.toNat:Int),.int .u64 (p.par.toNat:Int),.int .u64 (p.seq.toNat:Int),.int .u64 (p.off.toNat:Int),.int .u64 (p.tim.toNat:Int),.int .u32 (p.sch.toNat:Int),.slice A p.ms.length c]) ∧ w'.ownsRow w.heap.size 9 1 (.slice A p.ms.length c) p.ms.length (strsV p.ms) ∧ Below w.heap.size w w'
theorem metaOwn (w:World) (p:Sn) (A:Option Addr) (c:Nat) (hr:Rd w w.heap.size 1 A p.ms.length c (strsV p.ms)) (hmax:p.ms.length ≤ 1000000) :
 Calls Tryz.prog 105 #[.agg #[.int .u64 (p.id.toNat:Int),.int .u64 (p.par.toNat:Int),.int .u64 (p.seq.toNat:Int),.int .u64 (p.off.toNat:Int),.int .u64 (p.tim.toNat:Int),.int .u32 (p.sch.toNat:Int),.slice A p.ms.length c]] w (OwnEnd w p):=by
 go_enter Tryz.func105,Tryz.ntmps105
 go_wp2_with fail
 have x1:=boxN_new w #[.int .u64 (p.id.toNat:Int),.int .u64 (p.par.toNat:Int),.int .u64 (p.seq.toNat:Int),.int .u64 (p.off.toNat:Int),.int .u64 (p.tim.toNat:Int),.int .u32 (p.sch.toNat:Int),.slice A p.ms.length c] 43
 have hb1:=(Below.refl w.heap.size w).alloc (Nat.le_refl _) (.cells #[.int .u64 (p.id.toNat:Int),.int .u64 (p.par.toNat:Int),.int .u64 (p.seq.toNat:Int),.int .u64 (p.off.toNat:Int),.int .u64 (p.tim.toNat:Int),.int .u32 (p.sch.toNat:Int),.slice A p.ms.length c] 43)
 have hz1:(w.alloc (.cells #[.int .u64 (p.id.toNat:Int),.int .u64 (p.par.toNat:Int),.int .u64 (p.seq.toNat:Int),.int .u64 (p.off.toNat:Int),.int .u64 (p.tim.toNat:Int),.int .u32 (p.sch.toNat:Int),.slice A p.ms.length c] 43)).heap.size = w.heap.size + 1:=by simp
 generalize w.alloc (.cells #[.int .u64 (p.id.toNat:Int),.int .u64 (p.par.toNat:Int),.int .u64 (p.seq.toNat:Int),.int .u64 (p.off.toNat:Int),.int .u64 (p.tim.toNat:Int),.int .u32 (p.sch.toNat:Int),.slice A p.ms.length c] 43) = w1 at *
 have x2:=boxN_new w1 #[.int .u64 0,.int .u64 0,.int .u64 0,.int .u64 0,.int .u64 0,.int .u32 0,.slice none 0 0] 43
 have hb2:=(Below.refl w1.heap.size w1).alloc (Nat.le_refl _) (.cells #[.int .u64 0,.int .u64 0,.int .u64 0,.int .u64 0,.int .u64 0,.int .u32 0,.slice none 0 0] 43)
 have x1':=x1.keep hb2 x1.z
 have hB2:=below_call hb1 hb1.size hb2
 have hz2:(w1.alloc (.cells #[.int .u64 0,.int .u64 0,.int .u64 0,.int .u64 0,.int .u64 0,.int .u32 0,.slice none 0 0] 43)).heap.size = w1.heap.size + 1:=by simp
 rw [← hz1]
 generalize w1.alloc (.cells #[.int .u64 0,.int .u64 0,.int .u64 0,.int .u64 0,.int .u64 0,.int .u32 0,.slice none 0 0] 43) = w2 at *
 have hr2:=(hr.below hB2).more hB2.size
 obtain ⟨b1,hb1e⟩:∃ b,b = w.heap.size:=⟨_,rfl⟩
 obtain ⟨b2,hb2e⟩:∃ b,b = w1.heap.size:=⟨_,rfl⟩
 rw [← hb1e] at x1' ⊢
 rw [← hb2e] at x2 ⊢
 have k1:b1 < b2:=by omega
 have k2:b2 < w2.heap.size:=by omega
 have k3:w.heap.size ≤ b1:=by omega
 have k4:w.heap.size ≤ w2.heap.size:=by omega
 clear hb1 hb2 x1 hr hz1 hz2 hb1e hb2e
 have c6:=x1'.cell 6 _ rfl
 go_wp2_with fail
 refine (cloneS w2 w2.heap.size _ c A (strsV p.ms) hr2 (strsV_one _) (by omega) (Nat.le_refl _)).mono ?_
 rintro e w3 ⟨v3,rfl,hown3,hb3⟩
 have y1:=x1'.keep hb3 x1'.z
 have y2:=x2.keep hb3 x2.z
 have hB3:=below_call hB2 hB2.size hb3
 obtain ⟨A3,c3,rfl,_⟩:=Rd.of_own hown3
 have z1:=y1.set (j:=6) (.slice A3 p.ms.length c3) rfl
 have z2:=y2.else (p:=⟨b1,6,none⟩) (Nat.ne_of_lt k1) (.slice A3 p.ms.length c3)
 have hown4:=ownsRow_setCell_below hown3 (a:=⟨b1,6,none⟩) (by show b1 < w2.heap.size;omega) (.slice A3 p.ms.length c3)
 have hB4:Below w.heap.size w (w3.setCell ⟨b1,6,none⟩ (.slice A3 p.ms.length c3)):=hB3.setCell (p:=⟨b1,6,none⟩) k3 _
 have g0:=y1.cell 0 _ rfl
 have g1:=y1.cell 1 _ rfl
 have g2:=y1.cell 2 _ rfl
 have g3:=y1.cell 3 _ rfl
 have g4:=y1.cell 4 _ rfl
 have g5:=y1.cell 5 _ rfl
 have g6:=y1.cell 6 _ rfl
 have gf:=y1.free 6 (by simp)
 have e0:=y2.cell 0 _ rfl
 have e1:=y2.cell 1 _ rfl
 have e2:=y2.cell 2 _ rfl
 have e3:=y2.cell 3 _ rfl
 have e4:=y2.cell 4 _ rfl
 have e5:=y2.cell 5 _ rfl
 have e6:=y2.cell 6 _ rfl
 have h0:=y2.free 0 (by simp)
 have h1:=y2.free 1 (by simp)
 have h2:=y2.free 2 (by simp)
 have h3:=y2.free 3 (by simp)
 have h4:=y2.free 4 (by simp)
 have h5:=y2.free 5 (by simp)
 have h6:=y2.free 6 (by simp)
 have ne12:b1 ≠ b2:=Nat.ne_of_lt k1
 have ne21:b2 ≠ b1:=fun q => ne12 q.symm
 have Z2:=hide z2
 have HO:=hide hown4
 have HB:=hide hB4
 clear z1 z2 hown4 hB4 y1 y2 hown3 hb3 hB3 x1' x2 hB2 hr2 c6
 go_wp2_with fail
 (try simp only [Exit.inBlock,Exit.then])
 refine bodyPost_ret (ret_sn1 (b:=b2) rfl _ _ rfl Z2.out.set7) rfl ?_
 refine ⟨A3,c3,rfl,?_,below_set7 HB.out (by omega)⟩
 exact own_base (own_set7 HO.out k2) k4

def sIx (ns:List Nl) (id:UInt64):Int:=ixA (fun f:Nl => (f.p.id.toNat:Int) == (id.toNat:Int)) ns
def cIx (ss:List Sl) (id:UInt32):Int:=ixA (fun f:Sl => (f.id.toNat:Int) == (id.toNat:Int)) ss
def snAt (ns:List Nl) (i:Int):Sn:=if 0 ≤ i then (ns.getD i.toNat default).p else default
def SnapEnd (w:World) (ns:List Nl) (i:Int) (e:Ending) (w':World):Prop :=
 ∃ A c,e = .returned (.tuple #[.agg #[.int .u64 ((snAt ns i).id.toNat:Int),.int .u64 ((snAt ns i).par.toNat:Int),.int .u64 ((snAt ns i).seq.toNat:Int),.int .u64 ((snAt ns i).off.toNat:Int),.int .u64 ((snAt ns i).tim.toNat:Int),.int .u32 ((snAt ns i).sch.toNat:Int),.slice A (snAt ns i).ms.length c],.bool (decide (0 ≤ i))]) ∧ w'.ownsRow w.heap.size 9 1 (.slice A (snAt ns i).ms.length c) (snAt ns i).ms.length (strsV (snAt ns i).ms) ∧ Below w.heap.size w w'
set_option maxHeartbeats 1000000 in
theorem metaSnap (w:World) (sA:Option Addr) (sc:Nat) (ss:List Sl) (nA:Option Addr) (nc:Nat) (ns:List Nl) (cur:Nat) (hT:TabR w w.heap.size sA sc ss nA nc ns) (hmax:ns.length ≤ 1000000) (hm:∀ s ∈ ns,s.p.ms.length ≤ 1000000) (id:UInt64) :
 Calls Tryz.prog 73 #[.agg #[.slice sA ss.length sc,.slice nA ns.length nc,.int .u64 (cur:Int)],.int .u64 (id.toNat:Int)] w (SnapEnd w ns (sIx ns id)):=by
 go_enter Tryz.func73,Tryz.ntmps73
 go_wp2_with fail
 have x1:=boxN_new w #[.slice sA ss.length sc,.slice nA ns.length nc,.int .u64 (cur:Int)] 39
 have hb1:=(Below.refl w.heap.size w).alloc (Nat.le_refl _) (.cells #[.slice sA ss.length sc,.slice nA ns.length nc,.int .u64 (cur:Int)] 39)
 have hz1:(w.alloc (.cells #[.slice sA ss.length sc,.slice nA ns.length nc,.int .u64 (cur:Int)] 39)).heap.size = w.heap.size + 1:=by simp
 generalize w.alloc (.cells #[.slice sA ss.length sc,.slice nA ns.length nc,.int .u64 (cur:Int)] 39) = w1 at *
 have x2:=boxN_new w1 #[.int .u64 (id.toNat:Int)] 35
 have hb2:=(Below.refl w1.heap.size w1).alloc (Nat.le_refl _) (.cells #[.int .u64 (id.toNat:Int)] 35)
 have hz2:(w1.alloc (.cells #[.int .u64 (id.toNat:Int)] 35)).heap.size = w1.heap.size + 1:=by simp
 have x1b:=x1.keep hb2 x1.z
 have hB2:=below_call hb1 hb1.size hb2
 generalize w1.alloc (.cells #[.int .u64 (id.toNat:Int)] 35) = w2 at *
 have x3:=boxN_new w2 #[.int .u64 0,.int .u64 0,.int .u64 0,.int .u64 0,.int .u64 0,.int .u32 0,.slice none 0 0] 43
 have hb3:=(Below.refl w2.heap.size w2).alloc (Nat.le_refl _) (.cells #[.int .u64 0,.int .u64 0,.int .u64 0,.int .u64 0,.int .u64 0,.int .u32 0,.slice none 0 0] 43)
 have hz3:(w2.alloc (.cells #[.int .u64 0,.int .u64 0,.int .u64 0,.int .u64 0,.int .u64 0,.int .u32 0,.slice none 0 0] 43)).heap.size = w2.heap.size + 1:=by simp
 have x1c:=x1b.keep hb3 x1b.z
 have x2c:=x2.keep hb3 x2.z
 have hB3:=below_call hB2 hB2.size hb3
 generalize w2.alloc (.cells #[.int .u64 0,.int .u64 0,.int .u64 0,.int .u64 0,.int .u64 0,.int .u32 0,.slice none 0 0] 43) = w3 at *
 have hT3:=hT.later hB3
 rw [← hz1,← hz2]
 have z12:w.heap.size < w1.heap.size:=by omega
 have z23:w1.heap.size < w2.heap.size:=by omega
 have z34:w2.heap.size < w3.heap.size:=by omega
 have hw1:w.heap.size ≤ w2.heap.size:=by omega
 generalize hb1e:w.heap.size = b1 at *
 generalize w1.heap.size = b2 at *
 generalize w2.heap.size = b3 at *
 have H1:=hide hb1e
 clear hz1 hz2 hz3 hb1 hb2 hb3 x1 x1b x2 hB2 hT hb1e
 refine (indexN w3 _ nc nA ns hT3.nrow hmax 144 _ _ enter72 (predSnap w3 b2 id x2c.z (x2c.cell 0 _ rfl))).mono ?_
 rintro e w4 ⟨rfl,hb4⟩
 obtain ⟨i,hi⟩:∃ i,i = sIx ns id:=⟨_,rfl⟩
 have hi2:=hi
 unfold sIx at hi2
 rw [← hi2]
 have HI:=hide hi
 have HI2:=hide hi2
 have X1:=x1c.keep hb4 x1c.z
 have X3:=x3.keep hb4 x3.z
 have hT4:=hT3.later hb4
 have hB4:Below b1 w w4:=hB3.trans (hb4.mono (by omega))
 have hz4:=hb4.size
 clear hi hi2 x1c x2c x3 hT3 hB3 hb4
 have t1:=X1.cell 1 _ rfl
 have g0:=X3.cell 0 _ rfl
 have k0:=X3.free 0 (by simp)
 have g1:=X3.cell 1 _ rfl
 have k1:=X3.free 1 (by simp)
 have g2:=X3.cell 2 _ rfl
 have k2:=X3.free 2 (by simp)
 have g3:=X3.cell 3 _ rfl
 have k3:=X3.free 3 (by simp)
 have g4:=X3.cell 4 _ rfl
 have k4:=X3.free 4 (by simp)
 have g5:=X3.cell 5 _ rfl
 have k5:=X3.free 5 (by simp)
 have g6:=X3.cell 6 _ rfl
 have k6:=X3.free 6 (by simp)
 by_cases h0:i < 0
 ·have hd:decide (i < 0) = true:=decide_eq_true h0
  have HX:=hide X3
  have HS:Hid (snAt ns i = default ∧ decide (0 ≤ i) = false):=hide ⟨by unfold snAt;rw [if_neg (by omega)],decide_eq_false (by omega)⟩
  clear h0 X1 X3 hT4
  go_wp2_with fail
  (try simp only [Exit.inBlock,Exit.then])
  refine bodyPost_ret (ret_sn2 (b:=b3) rfl _ _ rfl HX.out.set7) rfl ?_
  rw [← HI.out]
  refine ⟨none,0,?_,?_,?_⟩
  ·rw [HS.out.1,HS.out.2];rfl
  ·rw [HS.out.1];exact World.ownsRow_nil _ _ _ _
  ·rw [H1.out];exact below_set7 hB4 hw1
 ·have hd:decide (i < 0) = false:=decide_eq_false h0
  obtain ⟨hk,hik,_⟩:=ixA_at HI2.out.symm (by omega)
  generalize i.toNat = k at hk hik
  subst hik
  have hk0:ns.length ≤ 9223372036854775807:=by omega
  obtain ⟨b,off,rfl,hb,f0,f1,f2,f3,f4,f5,f6⟩:=hT4.nrow.nl hk
  have hrd:=hT4.n_at hk
  have hml:=hm _ (getD_mem hk)
  have HS:Hid (snAt ns (k:Int) = (ns.getD k default).p ∧ decide ((0:Int) ≤ (k:Int)) = true):=hide ⟨by unfold snAt;rw [if_pos (by omega),Int.toNat_natCast],decide_eq_true (by omega)⟩
  generalize ns.getD k default = f at *
  have HX:=hide X3
  clear X1 X3 hT4 h0
  go_wp2_with fail
  refine (metaOwn w4 f.p f.A f.c hrd hml).mono ?_
  rintro e w5 ⟨A5,c5,rfl,hown5,hb5⟩
  have Y3:=HX.out.keep hb5 HX.out.z
  clear t1 f0 f1 f2 f3 f4 f5 f6 g0 k0 g1 k1 g2 k2 g3 k3 g4 k4 g5 k5 g6 k6
  have g0:=Y3.cell 0 _ rfl
  have k0:=Y3.free 0 (by simp)
  have g1:=Y3.cell 1 _ rfl
  have k1:=Y3.free 1 (by simp)
  have g2:=Y3.cell 2 _ rfl
  have k2:=Y3.free 2 (by simp)
  have g3:=Y3.cell 3 _ rfl
  have k3:=Y3.free 3 (by simp)
  have g4:=Y3.cell 4 _ rfl
  have k4:=Y3.free 4 (by simp)
  have g5:=Y3.cell 5 _ rfl
  have k5:=Y3.free 5 (by simp)
  have g6:=Y3.cell 6 _ rfl
  have k6:=Y3.free 6 (by simp)
  have hB5:Below b1 w w5:=hB4.trans (hb5.mono (by omega))
  have HY:=hide Y3
  have HO:=hide hown5
  have hz5:b3 < w4.heap.size:=HX.out.z
  clear Y3 hown5 hb5
  go_wp2_with fail
  (try simp only [Exit.inBlock,Exit.then])
  refine bodyPost_ret (ret_sn2 (b:=b3) rfl _ _ rfl HY.out.set7) rfl ?_
  rw [← HI.out]
  refine ⟨A5,c5,?_,?_,?_⟩
  ·rw [HS.out.1,HS.out.2];rfl
  ·rw [HS.out.1,H1.out];exact own_base (own_set7 HO.out hz5) (by omega)
  ·rw [H1.out];exact below_set7 hB5 hw1
end
end
end Go.Proofs.YtpfofefecamkfaaGreatDoor
