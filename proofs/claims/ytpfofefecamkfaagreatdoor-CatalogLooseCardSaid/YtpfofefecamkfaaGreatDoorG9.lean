/- WHAT SERVES THE TABLES' STATEMENTS, part 9: EnB, EnW, EnC, EnWE, EnNm, EnR, EnS. No statement of the seat is proved here. -/
import Derived.Test.YtpfofefecamkfaaGreatDoorG8
import Derived.Lib.AppendStr
import Derived.Lib.SlBytesConst
import Derived.ArgAppend
namespace Go.Proofs.YtpfofefecamkfaaGreatDoor
open Go.RowKit
set_option maxRecDepth 100000

section
open Go.RowKit

section
variable {ops:Array Oper} {rest:List Oper} {o:Oper} {a:Act} {Q:Exit → Act → World → Prop} {w:World} {B:Nat} {l news:List UInt8} {v:Value}
end
/-! ### the writer's box -/
/-- the writer at b wrote, its bytes lie above B -/
structure Wz (b B:Nat) (w w':World):Prop where
 os:w'.os = w.os
 tape:w'.tape = w.tape
 output:w'.output = w.output
 size:w.heap.size ≤ w'.heap.size
 blk:∀ k,k < w.heap.size → k < B → k ≠ b → w'.heap[k]? = w.heap[k]?
 oth:∀ (k:Nat) (o:Obj),w.heap[k]? = some o → (∀ arr f,o ≠ .cells arr 5 f) → k ≠ b → w'.heap[k]? = some o
section
variable {b B:Nat} {u w w':World}
theorem Wz.refl (b B:Nat) (w:World):Wz b B w w:=⟨rfl,rfl,rfl,Nat.le_refl _,fun _ _ _ _ => rfl,fun _ _ h _ _ => h⟩
theorem Wz.trans (h:Wz b B u w) (k:Wz b B w w'):Wz b B u w' :=
 ⟨k.os.trans h.os,k.tape.trans h.tape,k.output.trans h.output,Nat.le_trans h.size k.size,fun i hi hb hne => (k.blk i (Nat.lt_of_lt_of_le hi h.size) hb hne).trans (h.blk i hi hb hne),fun i o ha hne hb => k.oth i o (h.oth i o ha hne hb) hne hb⟩
theorem Wz.of (h:Below w.heap.size w w'):Wz b B w w' :=
 ⟨h.os,h.tape,h.output,h.size,fun k hk _ _ => h.block k hk,fun k _ ha _ _ => (h.block k (Array.getElem?_eq_some_iff.1 ha).1).trans ha⟩
theorem Wz.ofOth (h:Oth b w w'):Wz b B w w' :=
 ⟨h.os,h.tape,h.output,h.size,fun k hk _ hne => h.block k hk hne,fun k _ ha _ hne => (h.block k (Array.getElem?_eq_some_iff.1 ha).1 hne).trans ha⟩
theorem Wz.drew (h:Wz b B u w):Wz b B u w.drew:=⟨h.os,h.tape,h.output,h.size,h.blk,h.oth⟩
theorem Wz.set (h:Wz b B u w) (j:Nat) (x:Value):Wz b B u (w.setCell ⟨b,j,none⟩ x):=h.trans (.ofOth ((Oth.refl b w).set j x))
theorem Wz.below (h:Wz b B w w') {B0:Nat} (h1:B0 ≤ b) (h2:B0 ≤ B) (h3:B0 ≤ w.heap.size):Below B0 w w':=⟨h.os,h.tape,h.output,h.size,fun k hk => h.blk k (by omega) (by omega) (by omega)⟩
theorem Wz.grown {n:Nat} {v:Value} {xs:List Value} (ho:w.ownsRow B 5 1 v n xs) (hg:w.grownBy w' v.ownBlock):Wz b B w w':=by
 refine ⟨hg.os,hg.tape,hg.output,hg.size,fun k hk hb _ => ?_,fun k o ha hne _ => ?_⟩
 ·refine hg.block k hk fun q => ?_
  have:=(ho.lt k q.symm).1
  omega
 ·refine (hg.block k (Array.getElem?_eq_some_iff.1 ha).1 fun q => ?_).trans ha
  rcases ho.2 with ⟨rfl,_⟩ | ⟨g,cap,cur,rfl,_,hgc,_⟩
  ·cases q
  ·simp only [Value.ownBlock] at q
   injection q with q
   subst q
   rw [ha] at hgc
   injection hgc with hgc
   exact hne _ _ hgc
theorem BoxT.wz {k:Nat} {cs:List Value} {t:TypeId} (h:BoxT w k cs t) (hb:Wz b B w w') (hk:k ≠ b) (hne:t ≠ 5):BoxT w' k cs t:=by
 obtain ⟨arr,ha⟩:=h.ty
 have hbk:w'.heap[k]? = w.heap[k]?:=(hb.oth k _ ha (fun _ _ q => hne (by injection q)) hk).trans ha.symm
 exact ⟨⟨fun j v hj => (World.cell?_of_block (w:=w) (a:=⟨k,j,none⟩) hbk).trans (h.bx.cell j v hj),fun j hj => (World.frozen?_of_block (w:=w) (a:=⟨k,j,none⟩) hbk).trans (h.bx.free j hj),Nat.lt_of_lt_of_le h.bx.z hb.size⟩,arr,hbk.trans ha⟩
end
/-- the writer's box b, its bytes (one's own, above B) -/
structure WB (w:World) (b B:Nat) (A:Option Addr) (c:Nat) (l:List UInt8):Prop where
 bx:BoxT w b [.slice A l.length c] 180
 le:B ≤ w.heap.size
 own:w.ownsRow B 5 1 (.slice A l.length c) l.length (bytesV l)
section
variable {b B c:Nat} {u w w':World} {A:Option Addr} {l:List UInt8}
theorem WB.keep (h:WB w b B A c l) (hb:Below w.heap.size w w'):WB w' b B A c l:=⟨h.bx.keep hb,Nat.le_trans h.le hb.size,own_below h.own hb⟩
theorem WB.drew (h:WB w b B A c l):WB w.drew b B A c l:=h.keep ((Below.refl _ w).drew)
theorem WB.c0 (h:WB w b B A c l):w.cell? ⟨b,0,none⟩ = some (.slice A l.length c):=h.bx.bx.cell 0 _ rfl
theorem WB.z (h:WB w b B A c l):b < w.heap.size:=h.bx.bx.z
theorem WB.put (h:WB w b B A c l) {p:List UInt8} {w8:World} {g cap:Nat} (hown:w8.ownsRow B 5 1 (.slice (some ⟨g,0,none⟩) (l.length + p.length) cap) (l.length + p.length) (bytesV l ++ bytesV p)) (hg:w.grownBy w8 (Value.slice A l.length c).ownBlock) :
 w8.cell? ⟨b,0,none⟩ = some (.slice A l.length c) ∧ w8.frozen? ⟨b,0,none⟩ = false ∧ WB (w8.setCell ⟨b,0,none⟩ (.slice (some ⟨g,0,none⟩) (l.length + p.length) cap)) b B (some ⟨g,0,none⟩) cap (l ++ p) ∧ Wz b B w (w8.setCell ⟨b,0,none⟩ (.slice (some ⟨g,0,none⟩) (l.length + p.length) cap)):=by
 have bx:=h.bx.grown h.own hg (by decide)
 have e1:(l ++ p).length = l.length + p.length:=List.length_append
 have hs:=hg.size
 have hle:=h.le
 refine ⟨bx.bx.cell 0 _ rfl,bx.bx.free 0 (by simp),⟨?_,by simp;omega,?_⟩,(Wz.grown h.own hg).set 0 _⟩
 ·rw [e1];exact bx.set (j:=0) _ rfl
 ·rw [e1,bytesV_append];exact own_setT hown bx (by decide) 0 _
end
def WEnd (w:World) (b B:Nat) (l:List UInt8) (e:Ending) (w':World):Prop :=
 e = .returned (.tuple #[]) ∧ (∃ A c,WB w' b B A c l) ∧ Wz b B w w'
end


theorem lit_own {w:World} {B g n c:Nat} {p:List UInt8} (h:w.ownsRow B 5 1 (.slice (some ⟨g,0,none⟩) n c) p.length (bytesV p)):∀ j u,(bytesV p)[j]? = some u → w.cell? ((⟨g,0,none⟩:Addr).add j) = some u:=fun j u hj => by
 have hjl:j < (bytesV p).length:=(List.getElem?_eq_some_iff.1 hj).1
 rw [bytesV_length] at hjl
 rw [Addr.add_lit,Nat.zero_add]
 obtain ⟨A,c',q,hr⟩:=Rd.of_own h
 injection q with q1 q2 q3
 obtain ⟨b,off,e,hb,hc⟩:=hr.at_ (by omega)
 rw [← q1] at e
 injection e with e
 injection e with e1 e2
 subst e1 e2
 have:=hc j u hj
 rw [Nat.zero_add] at this
 exact this
set_option maxHeartbeats 1000000 in
theorem entWNum (w:World) (b B:Nat) (A:Option Addr) (c:Nat) (l:List UInt8) (h:WB w b B A c l) (n:Int) (h0:0 ≤ n) (h1:n ≤ 18446744073709551615) (hl:l.length ≤ 900000) :
 Calls Tryz.prog 101 #[.pointer (some ⟨b,0,none⟩),.int .u64 n] w (WEnd w b B (l ++ Var.put n.toNat)):=by
 have hp:=Var.put_le10 (n:=n.toNat) (by omega)
 have hpos:=put_pos n.toNat
 have c0:=h.c0
 obtain ⟨ti,hti,hti1,hti2,hti3⟩:=info_parts tyBytes.inf
 obtain ⟨p,hpe⟩:∃ p,Var.put n.toNat = p:=⟨_,rfl⟩
 have HV:∀ w,Calls Tryz.prog 153 #[.int .u64 n] w (RetBytes w p):=fun w => by rw [← hpe];exact varPut n w h0 h1
 rw [hpe] at hp hpos ⊢
 clear hpe h0 h1
 go_enter Tryz.func101,Tryz.ntmps101
 go_upto_region 0 with fail
 refine wp_region_held_drew (S:=fun _ => True) (by kernel_rfl) ?_ (fun hHeld => ?_)
 ·trivial
 refine wpAnyH_take (i:=0) (v:=?_) rfl (by kernel_rfl) (by kernel_rfl) (by kernel_rfl) (fun _ _ _ h => h) (Or.inl ⟨by rfl,?_⟩) hHeld ?_
 rotate_left 1
 ·(intro w hSw;go_simp;first | done | with_reducible rfl)
 (try simp only [Act.put,zA0])
 refine wpAnyH_take (i:=1) (v:=?_) rfl (by kernel_rfl) (by kernel_rfl) (by kernel_rfl) (fun _ _ _ h => h) (Or.inl ⟨by rfl,?_⟩) hHeld ?_
 rotate_left 1
 ·(intro w hSw;go_simp;first | done | with_reducible rfl)
 (try simp only [Act.put])
 refine wpAnyH_take (i:=2) (v:=?_) rfl (by kernel_rfl) (by kernel_rfl) (by kernel_rfl) (fun _ _ _ h => h) (Or.inl ⟨by rfl,?_⟩) hHeld ?_
 rotate_left 1
 ·(intro w hSw;go_simp;first | done | with_reducible rfl)
 (try simp only [Act.put])
 refine wpAnyH_take (i:=3) (v:=?_) rfl (by kernel_rfl) (by kernel_rfl) (by kernel_rfl) (fun _ _ _ h => h) (Or.inl ⟨by rfl,?_⟩) hHeld ?_
 rotate_left 1
 ·(intro w hSw;go_simp;first | done | with_reducible rfl)
 (try simp only [Act.put])
 refine wpAnyH_take (i:=5) (v:=?_) rfl (by kernel_rfl) (by kernel_rfl) (by kernel_rfl) (fun _ _ _ h => h) (Or.inl ⟨by rfl,?_⟩) hHeld ?_
 rotate_left 1
 ·(intro w hSw;go_simp;first | done | with_reducible rfl)
 (try simp only [Act.put])
 refine wpAnyH_ready (rs:=[4,6]) (by kernel_rfl) (by simp) ?_
 refine AllReadyH.cons rfl (fun K hK => ?_) (AllReadyH.cons rfl (fun K hK => ?_) (AllReadyH.nil))
 ·go_simp
  refine hK.out _ _ trivial (fun hHeld => ?_)
  clear hK K
  (try simp only [Act.put,zA0,zB0,zC0])
  refine wpAnyH_ready (rs:=[6]) (by kernel_rfl) (by simp) ?_
  refine AllReadyH.cons rfl (fun K hK => ?_) (AllReadyH.nil)
  ·go_simp
   go_at_call 153
   refine (HV w.drew).mono ?_
   rintro e w1 ⟨v1,rfl,hown1,hb1⟩
   obtain ⟨g1,k1,rfl,hg1,hg2⟩:=hown1.form hpos
   have HW:=hide (And.intro (h.drew.keep hb1) (And.intro ((Wz.refl b B w).drew.trans (.of hb1)) (lit_own hown1)))
   have c1:=(h.drew.keep hb1).c0
   clear hb1 hown1
   refine hK.out _ _ trivial (fun hHeld => ?_)
   clear hK K
   (try simp only [Act.put,zA0,zB0,zC0])
   refine wpAnyH_ready (rs:=[7]) (by kernel_rfl) (by simp) ?_
   refine AllReadyH.cons rfl (fun K hK => ?_) (AllReadyH.nil)
   ·refine step_append_lies _ rfl (.tmp 8) (.tmp 10) 55 rfl B 5 ti _ 1 1 Tryz.underlying55 hti hti1 hti2 hti3 tyBytes.zs (by decide) _ l.length (bytesV l) (by simp [Act.eval]) HW.out.1.own _ p.length k1 (bytesV p) (by simp [Act.eval]) (by rw [bytesV_length,Nat.mul_one]) HW.out.2.2 (bytesV_one _) (by omega) (by unfold maxLen <;> omega) (by omega) HW.out.1.le _ rfl ?_
    intro g cap w8 hown8 hg8 _ _
    obtain ⟨d0,d1,hG,hZ⟩:=HW.out.1.put hown8 hg8
    have HG8:=hide (And.intro hG ((HW.out.2.1).trans hZ))
    clear hown8 hg8 hG hZ
    refine hK.out _ _ trivial (fun hHeld => ?_)
    clear hK K
    (try simp only [Act.put,zA0])
    refine wpAnyH_take (i:=8) (v:=?_) rfl (by kernel_rfl) (by kernel_rfl) (by kernel_rfl) (fun _ _ _ h => h) (Or.inl ⟨by rfl,?_⟩) hHeld ?_
    rotate_left 1
    ·(intro w hSw;go_simp;first | done | with_reducible rfl)
    (try simp only [Act.put])
    refine wpAnyH_take (i:=9) (v:=?_) rfl (by kernel_rfl) (by kernel_rfl) (by kernel_rfl) (fun _ _ _ h => h) (Or.inl ⟨by rfl,?_⟩) hHeld ?_
    rotate_left 1
    ·(intro w hSw;go_simp;first | done | with_reducible rfl)
    (try simp only [Act.put])
    refine wpAnyH_ready (rs:=[10]) (by kernel_rfl) (by simp) ?_
    refine AllReadyH.cons rfl (fun K hK => ?_) (AllReadyH.nil)
    ·go_simp
     refine hK.out _ _ trivial (fun hHeld => ?_)
     clear hK K
     (try simp only [Act.put,zA0,zB0,zC0])
     refine wpAnyH_done (by kernel_rfl) ?_ _
     go_wp2_with fail
     go_end0
     exact ⟨rfl,⟨_,_,HG8.out.1⟩,HG8.out.2⟩
 ·go_simp
  go_at_call 153
  refine (HV w.drew).mono ?_
  rintro e w1 ⟨v1,rfl,hown1,hb1⟩
  obtain ⟨g1,k1,rfl,hg1,hg2⟩:=hown1.form hpos
  have HW:=hide (And.intro (h.drew.keep hb1) (And.intro ((Wz.refl b B w).drew.trans (.of hb1)) (lit_own hown1)))
  have c1:=(h.drew.keep hb1).c0
  clear hb1 hown1
  refine hK.out _ _ trivial (fun hHeld => ?_)
  clear hK K
  (try simp only [Act.put,zA0,zB0,zC0])
  refine wpAnyH_ready (rs:=[4]) (by kernel_rfl) (by simp) ?_
  refine AllReadyH.cons rfl (fun K hK => ?_) (AllReadyH.nil)
  ·go_simp
   refine hK.out _ _ trivial (fun hHeld => ?_)
   clear hK K
   (try simp only [Act.put,zA0,zB0,zC0])
   refine wpAnyH_ready (rs:=[7]) (by kernel_rfl) (by simp) ?_
   refine AllReadyH.cons rfl (fun K hK => ?_) (AllReadyH.nil)
   ·refine step_append_lies _ rfl (.tmp 8) (.tmp 10) 55 rfl B 5 ti _ 1 1 Tryz.underlying55 hti hti1 hti2 hti3 tyBytes.zs (by decide) _ l.length (bytesV l) (by simp [Act.eval]) HW.out.1.own _ p.length k1 (bytesV p) (by simp [Act.eval]) (by rw [bytesV_length,Nat.mul_one]) HW.out.2.2 (bytesV_one _) (by omega) (by unfold maxLen <;> omega) (by omega) HW.out.1.le _ rfl ?_
    intro g cap w8 hown8 hg8 _ _
    obtain ⟨d0,d1,hG,hZ⟩:=HW.out.1.put hown8 hg8
    have HG8:=hide (And.intro hG ((HW.out.2.1).trans hZ))
    clear hown8 hg8 hG hZ
    refine hK.out _ _ trivial (fun hHeld => ?_)
    clear hK K
    (try simp only [Act.put,zA0])
    refine wpAnyH_take (i:=8) (v:=?_) rfl (by kernel_rfl) (by kernel_rfl) (by kernel_rfl) (fun _ _ _ h => h) (Or.inl ⟨by rfl,?_⟩) hHeld ?_
    rotate_left 1
    ·(intro w hSw;go_simp;first | done | with_reducible rfl)
    (try simp only [Act.put])
    refine wpAnyH_take (i:=9) (v:=?_) rfl (by kernel_rfl) (by kernel_rfl) (by kernel_rfl) (fun _ _ _ h => h) (Or.inl ⟨by rfl,?_⟩) hHeld ?_
    rotate_left 1
    ·(intro w hSw;go_simp;first | done | with_reducible rfl)
    (try simp only [Act.put])
    refine wpAnyH_ready (rs:=[10]) (by kernel_rfl) (by simp) ?_
    refine AllReadyH.cons rfl (fun K hK => ?_) (AllReadyH.nil)
    ·go_simp
     refine hK.out _ _ trivial (fun hHeld => ?_)
     clear hK K
     (try simp only [Act.put,zA0,zB0,zC0])
     refine wpAnyH_done (by kernel_rfl) ?_ _
     go_wp2_with fail
     go_end0
     exact ⟨rfl,⟨_,_,HG8.out.1⟩,HG8.out.2⟩

/-- 'append(b, s..)' into the writer's box -/
theorem WB.puts {w:World} {b B c:Nat} {A:Option Addr} {l:List UInt8} (h:WB w b B A c l) {p:List UInt8} {w8:World} {v:Value} (hb:Buf B (l ++ p) v w8) (hg:w.grownBy w8 (Value.slice A l.length c).ownBlock) :
 ∃ A2 c2,v = .slice A2 (l ++ p).length c2 ∧ w8.cell? ⟨b,0,none⟩ = some (.slice A l.length c) ∧ w8.frozen? ⟨b,0,none⟩ = false ∧ WB (w8.setCell ⟨b,0,none⟩ (.slice A2 (l ++ p).length c2)) b B A2 c2 (l ++ p) ∧ Wz b B w (w8.setCell ⟨b,0,none⟩ (.slice A2 (l ++ p).length c2)):=by
 obtain ⟨A2,c2,rfl⟩:=own_slice hb
 have bx:=h.bx.grown h.own hg (by decide)
 have hs:=hg.size
 have hle:=h.le
 exact ⟨A2,c2,rfl,bx.bx.cell 0 _ rfl,bx.bx.free 0 (by simp),⟨bx.set (j:=0) _ rfl,by simp;omega,own_setT hb bx (by decide) 0 _⟩,(Wz.grown h.own hg).set 0 _⟩
theorem wpList_bufG {ops:Array Oper} {rest:List Oper} {o:Oper} {a:Act} {Q:Exit → Act → World → Prop} {w:World} {B:Nat} {l:List UInt8} {v:Value} (hgd:o.guard = none) (s x:Operand) (ho:o.op = .call { callee:=.builtin .append,args:=#[s,x],argTypes:=#[55,9] }) (hs:a.eval s = v) (hb:Buf B l v w)
 (st:ByteArray) (hx:a.eval x = .string st) (hlen:l.length + st.size ≤ 1000000) (hB:B ≤ w.heap.size)
 (h:∀ v' w',Buf B (l ++ st.data.toList) v' w' → w.grownBy w' v.ownBlock → wpList Tryz.prog ops Q rest (a.put o.dst v') w'):wpList Tryz.prog ops Q (o :: rest) a w:=by
 obtain ⟨ti,hti,hti1,hti2,hti3⟩:=info_parts tyBytes.inf
 refine Go.Lib.wpList_append_own_string _ hgd s x 55 9 ho B 5 ti Tryz.underlying55 Tryz.underlying9 hti hti1 hti2 hti3 v _ _ hs hb st hx (by unfold maxLen;omega) (by omega) hB fun v' w' h1 h2 _ => h v' w' ?_ h2
 unfold Buf
 rw [List.length_append,bytesV_append]
 exact h1
set_option maxHeartbeats 1000000 in
theorem entWText (w:World) (b B:Nat) (A:Option Addr) (c:Nat) (l:List UInt8) (h:WB w b B A c l) (s:ByteArray) (hl:l.length + s.size ≤ 800000) :
 Calls Tryz.prog 162 #[.pointer (some ⟨b,0,none⟩),.string s] w (WEnd w b B (l ++ tx s)):=by
 have e33:IntKind.u64.wrap (s.size:Int) = (s.size:Int):=by rw [IntKind.wrap_u64];omega
 have e34:(s.size:Int) % 18446744073709551616 = (s.size:Int):=by omega
 have hp:=Var.put_le10 (n:=s.size) (by omega)
 go_enter Tryz.func162,Tryz.ntmps162
 go_wp2_with fail
 refine (entWNum w b B A c l h (s.size:Int) (by omega) (by omega) (by omega)).mono ?_
 rintro e w1 ⟨rfl,⟨A1,c1,h1⟩,hz1⟩
 rw [Int.toNat_natCast] at h1
 have hl1:(l ++ Var.put s.size).length = l.length + (Var.put s.size).length:=List.length_append
 have c0:=h1.c0
 have hle:=h1.le
 have hbuf:Buf B (l ++ Var.put s.size) (.slice A1 (l ++ Var.put s.size).length c1) w1:=h1.own
 have etx:(l ++ Var.put s.size) ++ s.data.toList = l ++ tx s:=by unfold tx;rw [List.append_assoc]
 have hlz:(l ++ Var.put s.size).length + s.size ≤ 1000000:=by omega
 have HH:=hide (And.intro h1 (And.intro hz1 etx))
 generalize l ++ Var.put s.size = l1 at *
 clear e33 e34 hl1 h1 hz1 etx hp h
 go_wp2_with (at_builtin;refine wpList_bufG rfl (.tmp 13) (.tmp 14) rfl rfl hbuf s rfl hlz hle ?_;intro v3 w3 hbuf3 hg3;obtain ⟨A2,c2,rfl,d0,d1,hG,hZ⟩:=HH.out.1.puts hbuf3 hg3;have HG:=hide (And.intro hG (HH.out.2.1.trans hZ));clear hbuf3 hg3 hG hZ c0)
 go_end0
 have e9:(l1 ++ s.data.toList).length = l1.length + s.size:=by rw [List.length_append,Array.length_toList];rfl
 have G:=HG.out
 rw [e9,HH.out.2.2] at G
 exact ⟨rfl,⟨_,_,G.1⟩,G.2⟩
set_option maxHeartbeats 2000000 in
theorem entWCell (w:World) (b B:Nat) (A:Option Addr) (c:Nat) (l:List UInt8) (h:WB w b B A c l) (x:Ce) (hx:bndOk x = true) (hl:l.length ≤ 700000) :
 Calls Tryz.prog 201 #[.pointer (some ⟨b,0,none⟩),.agg #[.int .u8 (x.kind.toNat:Int),.int .i64 x.n.toInt,.string x.s]] w (WEnd w b B (l ++ cellB x)):=by
 obtain ⟨q1,q2,q3,q4,q5,q6⟩:=bnd_has hx
 obtain ⟨k,hk⟩:∃ k,x.kind.toNat = k:=⟨_,rfl⟩
 obtain ⟨n,hn⟩:∃ n,x.n.toInt = n:=⟨_,rfl⟩
 obtain ⟨s,hs⟩:∃ s,x.s = s:=⟨_,rfl⟩
 have hn0 : -9223372036854775808 ≤ n:=by rw [← hn];exact Int64.le_toInt x.n
 have hn1:n ≤ 9223372036854775807:=by have:=Int64.toInt_lt x.n;omega
 have hB:cellB x = if k = 1 then Var.put (zig n) else if k = 2 then Var.put n.toNat else tx s:=by unfold cellB;rw [hk,hn,hs]
 rw [hk] at q1 q2 q6
 rw [hs] at q3
 rw [hn] at q6
 rw [hB,hk,hn,hs]
 clear hB hx hk hn hs q4 q5
 have x0:=boxT_new w #[.int .u8 (k:Int),.int .i64 n,.string s] 199
 have hb1:=(Below.refl w.heap.size w).alloc (Nat.le_refl _) (.cells #[.int .u8 (k:Int),.int .i64 n,.string s] 199)
 have h1:=h.keep hb1
 have hz1:=(Wz.refl b B w).trans (.of hb1)
 rcases (show k = 1 ∨ k = 2 ∨ k = 3 by omega) with rfl | rfl | rfl
 ·have hz:=hide (zig_lt hn0 hn1)
  have hp:=Var.put_le10 (n:=zig n) hz.out
  have hpos:=put_pos (zig n)
  rw [if_pos rfl]
  obtain ⟨p,hpe⟩:∃ p,Var.put (zig n) = p:=⟨_,rfl⟩
  have HV:∀ w,Calls Tryz.prog 238 #[.int .i64 n] w (RetBytes w p):=fun w => by rw [← hpe];exact varPutInt n w hn0 hn1
  rw [hpe] at hp hpos ⊢
  obtain ⟨ti,hti,hti1,hti2,hti3⟩:=info_parts tyBytes.inf
  clear hpe hn0 hn1 q6 hz
  go_enter Tryz.func201,Tryz.ntmps201
  go_upto_region 4 with fail
  generalize w.alloc (.cells #[.int .u8 ((1:Nat):Int),.int .i64 n,.string s] 199) = w0 at *
  generalize w.heap.size = bs at *
  have c0:=h1.c0
  have k0:=x0.bx.cell 1 _ rfl
  refine wp_region_held_drew (S:=fun _ => True) (by kernel_rfl) ?_ (fun hHeld => ?_)
  ·trivial
  refine wpAnyH_take (i:=0) (v:=?_) rfl (by kernel_rfl) (by kernel_rfl) (by kernel_rfl) (fun _ _ _ h => h) (Or.inl ⟨by rfl,?_⟩) hHeld ?_
  rotate_left 1
  ·(intro w hSw;go_simp;first | done | with_reducible rfl)
  (try simp only [Act.put,zA0])
  refine wpAnyH_take (i:=1) (v:=?_) rfl (by kernel_rfl) (by kernel_rfl) (by kernel_rfl) (fun _ _ _ h => h) (Or.inl ⟨by rfl,?_⟩) hHeld ?_
  rotate_left 1
  ·(intro w hSw;go_simp;first | done | with_reducible rfl)
  (try simp only [Act.put])
  refine wpAnyH_take (i:=2) (v:=?_) rfl (by kernel_rfl) (by kernel_rfl) (by kernel_rfl) (fun _ _ _ h => h) (Or.inl ⟨by rfl,?_⟩) hHeld ?_
  rotate_left 1
  ·(intro w hSw;go_simp;first | done | with_reducible rfl)
  (try simp only [Act.put])
  refine wpAnyH_take (i:=3) (v:=?_) rfl (by kernel_rfl) (by kernel_rfl) (by kernel_rfl) (fun _ _ _ h => h) (Or.inl ⟨by rfl,?_⟩) hHeld ?_
  rotate_left 1
  ·(intro w hSw;go_simp;first | done | with_reducible rfl)
  (try simp only [Act.put])
  refine wpAnyH_take (i:=5) (v:=?_) rfl (by kernel_rfl) (by kernel_rfl) (by kernel_rfl) (fun _ _ _ h => h) (Or.inl ⟨by rfl,?_⟩) hHeld ?_
  rotate_left 1
  ·(intro w hSw;go_simp;first | done | with_reducible rfl)
  (try simp only [Act.put])
  refine wpAnyH_ready (rs:=[4,6]) (by kernel_rfl) (by simp) ?_
  refine AllReadyH.cons rfl (fun K hK => ?_) (AllReadyH.cons rfl (fun K hK => ?_) (AllReadyH.nil))
  ·go_simp
   refine hK.out _ _ trivial (fun hHeld => ?_)
   clear hK K
   (try simp only [Act.put,zA0,zB0,zC0])
   refine wpAnyH_ready (rs:=[6]) (by kernel_rfl) (by simp) ?_
   refine AllReadyH.cons rfl (fun K hK => ?_) (AllReadyH.nil)
   ·go_simp
    refine hK.out _ _ trivial (fun hHeld => ?_)
    clear hK K
    (try simp only [Act.put,zA0,zB0,zC0])
    refine wpAnyH_ready (rs:=[7]) (by kernel_rfl) (by simp) ?_
    refine AllReadyH.cons rfl (fun K hK => ?_) (AllReadyH.nil)
    ·go_simp
     go_at_call 238
     refine (HV w0.drew).mono ?_
     rintro e w1 ⟨v1,rfl,hown1,hb1⟩
     obtain ⟨g1,k1,rfl,hg1,hg2⟩:=hown1.form hpos
     have HW:=hide (And.intro (h1.drew.keep hb1) (And.intro ((Wz.refl b B w0).drew.trans (.of hb1)) (lit_own hown1)))
     have c1:=(h1.drew.keep hb1).c0
     clear hb1 hown1
     refine hK.out _ _ trivial (fun hHeld => ?_)
     clear hK K
     (try simp only [Act.put,zA0,zB0,zC0])
     refine wpAnyH_ready (rs:=[8]) (by kernel_rfl) (by simp) ?_
     refine AllReadyH.cons rfl (fun K hK => ?_) (AllReadyH.nil)
     ·refine step_append_lies _ rfl (.tmp 16) (.tmp 19) 55 rfl B 5 ti _ 1 1 Tryz.underlying55 hti hti1 hti2 hti3 tyBytes.zs (by decide) _ l.length (bytesV l) (by simp [Act.eval]) HW.out.1.own _ p.length k1 (bytesV p) (by simp [Act.eval]) (by rw [bytesV_length,Nat.mul_one]) HW.out.2.2 (bytesV_one _) (by omega) (by unfold maxLen <;> omega) (by omega) HW.out.1.le _ rfl ?_
      intro g cap w8 hown8 hg8 _ _
      obtain ⟨d0,d1,hG,hZ⟩:=HW.out.1.put hown8 hg8
      have HG8:=hide (And.intro hG ((HW.out.2.1).trans hZ))
      clear hown8 hg8 hG hZ
      refine hK.out _ _ trivial (fun hHeld => ?_)
      clear hK K
      (try simp only [Act.put,zA0])
      refine wpAnyH_take (i:=9) (v:=?_) rfl (by kernel_rfl) (by kernel_rfl) (by kernel_rfl) (fun _ _ _ h => h) (Or.inl ⟨by rfl,?_⟩) hHeld ?_
      rotate_left 1
      ·(intro w hSw;go_simp;first | done | with_reducible rfl)
      (try simp only [Act.put])
      refine wpAnyH_take (i:=10) (v:=?_) rfl (by kernel_rfl) (by kernel_rfl) (by kernel_rfl) (fun _ _ _ h => h) (Or.inl ⟨by rfl,?_⟩) hHeld ?_
      rotate_left 1
      ·(intro w hSw;go_simp;first | done | with_reducible rfl)
      (try simp only [Act.put])
      refine wpAnyH_ready (rs:=[11]) (by kernel_rfl) (by simp) ?_
      refine AllReadyH.cons rfl (fun K hK => ?_) (AllReadyH.nil)
      ·go_simp
       refine hK.out _ _ trivial (fun hHeld => ?_)
       clear hK K
       (try simp only [Act.put,zA0,zB0,zC0])
       refine wpAnyH_done (by kernel_rfl) ?_ _
       go_wp2_with fail
       go_end0
       exact ⟨rfl,⟨_,_,HG8.out.1⟩,hz1.trans HG8.out.2⟩
  ·go_simp
   refine hK.out _ _ trivial (fun hHeld => ?_)
   clear hK K
   (try simp only [Act.put,zA0,zB0,zC0])
   refine wpAnyH_ready (rs:=[4,7]) (by kernel_rfl) (by simp) ?_
   refine AllReadyH.cons rfl (fun K hK => ?_) (AllReadyH.cons rfl (fun K hK => ?_) (AllReadyH.nil))
   ·go_simp
    refine hK.out _ _ trivial (fun hHeld => ?_)
    clear hK K
    (try simp only [Act.put,zA0,zB0,zC0])
    refine wpAnyH_ready (rs:=[7]) (by kernel_rfl) (by simp) ?_
    refine AllReadyH.cons rfl (fun K hK => ?_) (AllReadyH.nil)
    ·go_simp
     go_at_call 238
     refine (HV w0.drew).mono ?_
     rintro e w1 ⟨v1,rfl,hown1,hb1⟩
     obtain ⟨g1,k1,rfl,hg1,hg2⟩:=hown1.form hpos
     have HW:=hide (And.intro (h1.drew.keep hb1) (And.intro ((Wz.refl b B w0).drew.trans (.of hb1)) (lit_own hown1)))
     have c1:=(h1.drew.keep hb1).c0
     clear hb1 hown1
     refine hK.out _ _ trivial (fun hHeld => ?_)
     clear hK K
     (try simp only [Act.put,zA0,zB0,zC0])
     refine wpAnyH_ready (rs:=[8]) (by kernel_rfl) (by simp) ?_
     refine AllReadyH.cons rfl (fun K hK => ?_) (AllReadyH.nil)
     ·refine step_append_lies _ rfl (.tmp 16) (.tmp 19) 55 rfl B 5 ti _ 1 1 Tryz.underlying55 hti hti1 hti2 hti3 tyBytes.zs (by decide) _ l.length (bytesV l) (by simp [Act.eval]) HW.out.1.own _ p.length k1 (bytesV p) (by simp [Act.eval]) (by rw [bytesV_length,Nat.mul_one]) HW.out.2.2 (bytesV_one _) (by omega) (by unfold maxLen <;> omega) (by omega) HW.out.1.le _ rfl ?_
      intro g cap w8 hown8 hg8 _ _
      obtain ⟨d0,d1,hG,hZ⟩:=HW.out.1.put hown8 hg8
      have HG8:=hide (And.intro hG ((HW.out.2.1).trans hZ))
      clear hown8 hg8 hG hZ
      refine hK.out _ _ trivial (fun hHeld => ?_)
      clear hK K
      (try simp only [Act.put,zA0])
      refine wpAnyH_take (i:=9) (v:=?_) rfl (by kernel_rfl) (by kernel_rfl) (by kernel_rfl) (fun _ _ _ h => h) (Or.inl ⟨by rfl,?_⟩) hHeld ?_
      rotate_left 1
      ·(intro w hSw;go_simp;first | done | with_reducible rfl)
      (try simp only [Act.put])
      refine wpAnyH_take (i:=10) (v:=?_) rfl (by kernel_rfl) (by kernel_rfl) (by kernel_rfl) (fun _ _ _ h => h) (Or.inl ⟨by rfl,?_⟩) hHeld ?_
      rotate_left 1
      ·(intro w hSw;go_simp;first | done | with_reducible rfl)
      (try simp only [Act.put])
      refine wpAnyH_ready (rs:=[11]) (by kernel_rfl) (by simp) ?_
      refine AllReadyH.cons rfl (fun K hK => ?_) (AllReadyH.nil)
      ·go_simp
       refine hK.out _ _ trivial (fun hHeld => ?_)
       clear hK K
       (try simp only [Act.put,zA0,zB0,zC0])
       refine wpAnyH_done (by kernel_rfl) ?_ _
       go_wp2_with fail
       go_end0
       exact ⟨rfl,⟨_,_,HG8.out.1⟩,hz1.trans HG8.out.2⟩
   ·go_simp
    go_at_call 238
    refine (HV w0.drew).mono ?_
    rintro e w1 ⟨v1,rfl,hown1,hb1⟩
    obtain ⟨g1,k1,rfl,hg1,hg2⟩:=hown1.form hpos
    have HW:=hide (And.intro (h1.drew.keep hb1) (And.intro ((Wz.refl b B w0).drew.trans (.of hb1)) (lit_own hown1)))
    have c1:=(h1.drew.keep hb1).c0
    clear hb1 hown1
    refine hK.out _ _ trivial (fun hHeld => ?_)
    clear hK K
    (try simp only [Act.put,zA0,zB0,zC0])
    refine wpAnyH_ready (rs:=[4]) (by kernel_rfl) (by simp) ?_
    refine AllReadyH.cons rfl (fun K hK => ?_) (AllReadyH.nil)
    ·go_simp
     refine hK.out _ _ trivial (fun hHeld => ?_)
     clear hK K
     (try simp only [Act.put,zA0,zB0,zC0])
     refine wpAnyH_ready (rs:=[8]) (by kernel_rfl) (by simp) ?_
     refine AllReadyH.cons rfl (fun K hK => ?_) (AllReadyH.nil)
     ·refine step_append_lies _ rfl (.tmp 16) (.tmp 19) 55 rfl B 5 ti _ 1 1 Tryz.underlying55 hti hti1 hti2 hti3 tyBytes.zs (by decide) _ l.length (bytesV l) (by simp [Act.eval]) HW.out.1.own _ p.length k1 (bytesV p) (by simp [Act.eval]) (by rw [bytesV_length,Nat.mul_one]) HW.out.2.2 (bytesV_one _) (by omega) (by unfold maxLen <;> omega) (by omega) HW.out.1.le _ rfl ?_
      intro g cap w8 hown8 hg8 _ _
      obtain ⟨d0,d1,hG,hZ⟩:=HW.out.1.put hown8 hg8
      have HG8:=hide (And.intro hG ((HW.out.2.1).trans hZ))
      clear hown8 hg8 hG hZ
      refine hK.out _ _ trivial (fun hHeld => ?_)
      clear hK K
      (try simp only [Act.put,zA0])
      refine wpAnyH_take (i:=9) (v:=?_) rfl (by kernel_rfl) (by kernel_rfl) (by kernel_rfl) (fun _ _ _ h => h) (Or.inl ⟨by rfl,?_⟩) hHeld ?_
      rotate_left 1
      ·(intro w hSw;go_simp;first | done | with_reducible rfl)
      (try simp only [Act.put])
      refine wpAnyH_take (i:=10) (v:=?_) rfl (by kernel_rfl) (by kernel_rfl) (by kernel_rfl) (fun _ _ _ h => h) (Or.inl ⟨by rfl,?_⟩) hHeld ?_
      rotate_left 1
      ·(intro w hSw;go_simp;first | done | with_reducible rfl)
      (try simp only [Act.put])
      refine wpAnyH_ready (rs:=[11]) (by kernel_rfl) (by simp) ?_
      refine AllReadyH.cons rfl (fun K hK => ?_) (AllReadyH.nil)
      ·go_simp
       refine hK.out _ _ trivial (fun hHeld => ?_)
       clear hK K
       (try simp only [Act.put,zA0,zB0,zC0])
       refine wpAnyH_done (by kernel_rfl) ?_ _
       go_wp2_with fail
       go_end0
       exact ⟨rfl,⟨_,_,HG8.out.1⟩,hz1.trans HG8.out.2⟩
 ·rw [if_neg (by decide),if_pos rfl]
  have hn01:=q6 rfl
  have e33:IntKind.u64.wrap n = n:=by rw [IntKind.wrap_u64];omega
  have e34:n % 18446744073709551616 = n:=by omega
  go_enter Tryz.func201,Tryz.ntmps201
  go_wp2_with fail
  refine (entWNum _ b B A c l h1 n (by omega) (by omega) (by omega)).mono ?_
  rintro e w2 ⟨rfl,h2,hz2⟩
  go_wp2_with fail
  go_end0
  exact ⟨rfl,h2,hz1.trans hz2⟩
 ·rw [if_neg (by decide),if_neg (by decide)]
  go_enter Tryz.func201,Tryz.ntmps201
  go_wp2_with fail
  refine (entWText _ b B A c l h1 s (by omega)).mono ?_
  rintro e w2 ⟨rfl,h2,hz2⟩
  go_wp2_with fail
  go_end0
  exact ⟨rfl,h2,hz1.trans hz2⟩
theorem entWNumN (w:World) (b B:Nat) (A:Option Addr) (c:Nat) (l:List UInt8) (h:WB w b B A c l) (n:Nat) (hn:n < 18446744073709551616) (hl:l.length ≤ 900000) :
 Calls Tryz.prog 101 #[.pointer (some ⟨b,0,none⟩),.int .u64 (n:Int)] w (WEnd w b B (l ++ Var.put n)):=by
 have:=entWNum w b B A c l h (n:Int) (by omega) (by omega) hl
 rw [Int.toNat_natCast] at this
 exact this
set_option maxHeartbeats 2000000 in
theorem entWStat (w:World) (b B:Nat) (A:Option Addr) (c:Nat) (l:List UInt8) (h:WB w b B A c l) (s:St) (hs:statOk s = true) (hl:l.length ≤ 600000) :
 Calls Tryz.prog 163 #[.pointer (some ⟨b,0,none⟩),.agg #[.int .i64 s.rows.toInt,.int .i64 s.nulls.toInt,.bool s.som,.bool s.high,.int .u8 (s.mn.kind.toNat:Int),.int .i64 s.mn.n.toInt,.string s.mn.s,.int .u8 (s.mx.kind.toNat:Int),.int .i64 s.mx.n.toInt,.string s.mx.s]] w (WEnd w b B (l ++ statB s)):=by
 obtain ⟨q1,q2,q3,q4⟩:=stat_has hs
 obtain ⟨n,hn⟩:∃ n:Nat,s.nulls.toInt = (n:Int):=⟨s.nulls.toInt.toNat,by omega⟩
 have hn64:n < 18446744073709551616:=by omega
 have e33:IntKind.u64.wrap (n:Int) = (n:Int):=by rw [IntKind.wrap_u64];omega
 have e34:(n:Int) % 18446744073709551616 = (n:Int):=by omega
 have hp1:=Var.put_le10 (n:=n) (by omega)
 have hkk:=s.mn.kind.toNat_lt
 have hp2:=Var.put_le10 (n:=s.mn.kind.toNat) (by omega)
 have p0:=Var.put_le10 (n:=0) (by omega)
 have p1:=Var.put_le10 (n:=1) (by omega)
 have p3:=Var.put_le10 (n:=3) (by omega)
 have hsB:statB s = Var.put n ++ (if s.som = false then Var.put 0 else if s.high = true then Var.put 3 ++ (Var.put s.mn.kind.toNat ++ (cellB s.mn ++ cellB s.mx)) else Var.put 1 ++ (Var.put s.mn.kind.toNat ++ cellB s.mn)):=by unfold statB;rw [hn,Int.toNat_natCast]
 rw [hsB,hn]
 have x0:=boxT_new w #[.int .i64 s.rows.toInt,.int .i64 (n:Int),.bool s.som,.bool s.high,.int .u8 (s.mn.kind.toNat:Int),.int .i64 s.mn.n.toInt,.string s.mn.s,.int .u8 (s.mx.kind.toNat:Int),.int .i64 s.mx.n.toInt,.string s.mx.s] 201
 have hb1:=(Below.refl w.heap.size w).alloc (Nat.le_refl _) (.cells #[.int .i64 s.rows.toInt,.int .i64 (n:Int),.bool s.som,.bool s.high,.int .u8 (s.mn.kind.toNat:Int),.int .i64 s.mn.n.toInt,.string s.mn.s,.int .u8 (s.mx.kind.toNat:Int),.int .i64 s.mx.n.toInt,.string s.mx.s] 201)
 have h1:=h.keep hb1
 have Z1:=(Wz.refl b B w).trans (.of hb1)
 have hne:w.heap.size ≠ b:=by have:=h.z;omega
 clear hsB hn hs q1 q2 q3
 have k1:=x0.bx.cell 2 _ rfl
 have m1:=x0.bx.cell 3 _ rfl
 cases hsom:s.som with
 | false =>
   rw [if_pos rfl]
   (try rw [hsom] at x0);(try rw [hsom] at h1);(try rw [hsom] at Z1);(try rw [hsom] at k1);(try rw [hsom] at m1)
   clear q4
   go_enter Tryz.func163,Tryz.ntmps163
   go_wp2_with fail
   generalize w.alloc (.cells #[.int .i64 s.rows.toInt,.int .i64 (n:Int),.bool false,.bool s.high,.int .u8 (s.mn.kind.toNat:Int),.int .i64 s.mn.n.toInt,.string s.mn.s,.int .u8 (s.mx.kind.toNat:Int),.int .i64 s.mx.n.toInt,.string s.mx.s] 201) = w1 at *
   generalize w.heap.size = bs at *
   have hl1:l.length ≤ 600000:=hl
   refine (entWNumN w1 b B A c l h1 n (by omega) (by omega)).mono ?_
   rintro e w2 ⟨rfl,⟨A2,c2,h2⟩,hz⟩
   have Z2:=Z1.trans hz
   have x1:=x0.wz hz hne (by decide)
   obtain ⟨l2,hl2e⟩:∃ l2,l ++ Var.put n = l2:=⟨_,rfl⟩
   rw [hl2e] at h2
   have hl2:l2.length ≤ 600100:=by rw [← hl2e,List.length_append];omega
   have HL2:=hide hl2e
   have k2:=x1.bx.cell 2 _ rfl
   have m2:=x1.bx.cell 3 _ rfl
   have y24:=x1.bx.cell 4 _ rfl
   have y25:=x1.bx.cell 5 _ rfl
   have y26:=x1.bx.cell 6 _ rfl
   have y27:=x1.bx.cell 7 _ rfl
   have y28:=x1.bx.cell 8 _ rfl
   have y29:=x1.bx.cell 9 _ rfl
   clear hl2e h1 hz x0 k1 m1
   go_wp2_with fail
   refine (entWNumN w2 b B A2 c2 l2 h2 0 (by omega) (by omega)).mono ?_
   rintro e w3 ⟨rfl,⟨A3,c3,h3⟩,hz⟩
   have Z3:=Z2.trans hz
   have x2:=x1.wz hz hne (by decide)
   obtain ⟨l3,hl3e⟩:∃ l3,l2 ++ Var.put 0 = l3:=⟨_,rfl⟩
   rw [hl3e] at h3
   have hl3:l3.length ≤ 600200:=by rw [← hl3e,List.length_append];omega
   have HL3:=hide hl3e
   have k3:=x2.bx.cell 2 _ rfl
   have m3:=x2.bx.cell 3 _ rfl
   have y34:=x2.bx.cell 4 _ rfl
   have y35:=x2.bx.cell 5 _ rfl
   have y36:=x2.bx.cell 6 _ rfl
   have y37:=x2.bx.cell 7 _ rfl
   have y38:=x2.bx.cell 8 _ rfl
   have y39:=x2.bx.cell 9 _ rfl
   clear hl3e h2 hz x1 k2 m2 y24 y25 y26 y27 y28 y29
   go_wp2_with fail
   go_end0
   refine ⟨rfl,⟨A3,c3,?_⟩,Z3⟩
   rw [← List.append_assoc,HL2.out,HL3.out]
   exact h3
 | true =>
   obtain ⟨b1,b2⟩:=q4 hsom
   have cb1:=cellB_le b1
   rw [if_neg (by simp)]
   (try rw [hsom] at x0);(try rw [hsom] at h1);(try rw [hsom] at Z1);(try rw [hsom] at k1);(try rw [hsom] at m1)
   cases hhi:s.high with
   | true =>
     obtain ⟨b3, -⟩:=b2 hhi
     have cb3:=cellB_le b3
     rw [if_pos rfl]
     (try rw [hhi] at x0);(try rw [hhi] at h1);(try rw [hhi] at Z1);(try rw [hhi] at k1);(try rw [hhi] at m1)
     clear b2 q4
     go_enter Tryz.func163,Tryz.ntmps163
     go_wp2_with fail
     generalize w.alloc (.cells #[.int .i64 s.rows.toInt,.int .i64 (n:Int),.bool true,.bool true,.int .u8 (s.mn.kind.toNat:Int),.int .i64 s.mn.n.toInt,.string s.mn.s,.int .u8 (s.mx.kind.toNat:Int),.int .i64 s.mx.n.toInt,.string s.mx.s] 201) = w1 at *
     generalize w.heap.size = bs at *
     have hl1:l.length ≤ 600000:=hl
     refine (entWNumN w1 b B A c l h1 n (by omega) (by omega)).mono ?_
     rintro e w2 ⟨rfl,⟨A2,c2,h2⟩,hz⟩
     have Z2:=Z1.trans hz
     have x1:=x0.wz hz hne (by decide)
     obtain ⟨l2,hl2e⟩:∃ l2,l ++ Var.put n = l2:=⟨_,rfl⟩
     rw [hl2e] at h2
     have hl2:l2.length ≤ 600100:=by rw [← hl2e,List.length_append];omega
     have HL2:=hide hl2e
     have k2:=x1.bx.cell 2 _ rfl
     have m2:=x1.bx.cell 3 _ rfl
     have y24:=x1.bx.cell 4 _ rfl
     have y25:=x1.bx.cell 5 _ rfl
     have y26:=x1.bx.cell 6 _ rfl
     have y27:=x1.bx.cell 7 _ rfl
     have y28:=x1.bx.cell 8 _ rfl
     have y29:=x1.bx.cell 9 _ rfl
     clear hl2e h1 hz x0 k1 m1
     go_wp2_with fail
     refine (entWNumN w2 b B A2 c2 l2 h2 3 (by omega) (by omega)).mono ?_
     rintro e w3 ⟨rfl,⟨A3,c3,h3⟩,hz⟩
     have Z3:=Z2.trans hz
     have x2:=x1.wz hz hne (by decide)
     obtain ⟨l3,hl3e⟩:∃ l3,l2 ++ Var.put 3 = l3:=⟨_,rfl⟩
     rw [hl3e] at h3
     have hl3:l3.length ≤ 600200:=by rw [← hl3e,List.length_append];omega
     have HL3:=hide hl3e
     have k3:=x2.bx.cell 2 _ rfl
     have m3:=x2.bx.cell 3 _ rfl
     have y34:=x2.bx.cell 4 _ rfl
     have y35:=x2.bx.cell 5 _ rfl
     have y36:=x2.bx.cell 6 _ rfl
     have y37:=x2.bx.cell 7 _ rfl
     have y38:=x2.bx.cell 8 _ rfl
     have y39:=x2.bx.cell 9 _ rfl
     clear hl3e h2 hz x1 k2 m2 y24 y25 y26 y27 y28 y29
     go_wp2_with fail
     refine (entWNumN w3 b B A3 c3 l3 h3 s.mn.kind.toNat (by omega) (by omega)).mono ?_
     rintro e w4 ⟨rfl,⟨A4,c4,h4⟩,hz⟩
     have Z4:=Z3.trans hz
     have x3:=x2.wz hz hne (by decide)
     obtain ⟨l4,hl4e⟩:∃ l4,l3 ++ Var.put s.mn.kind.toNat = l4:=⟨_,rfl⟩
     rw [hl4e] at h4
     have hl4:l4.length ≤ 600300:=by rw [← hl4e,List.length_append];omega
     have HL4:=hide hl4e
     have k4:=x3.bx.cell 2 _ rfl
     have m4:=x3.bx.cell 3 _ rfl
     have y44:=x3.bx.cell 4 _ rfl
     have y45:=x3.bx.cell 5 _ rfl
     have y46:=x3.bx.cell 6 _ rfl
     have y47:=x3.bx.cell 7 _ rfl
     have y48:=x3.bx.cell 8 _ rfl
     have y49:=x3.bx.cell 9 _ rfl
     clear hl4e h3 hz x2 k3 m3 y34 y35 y36 y37 y38 y39
     go_wp2_with fail
     refine (entWCell w4 b B A4 c4 l4 h4 s.mn b1 (by omega)).mono ?_
     rintro e w5 ⟨rfl,⟨A5,c5,h5⟩,hz⟩
     have Z5:=Z4.trans hz
     have x4:=x3.wz hz hne (by decide)
     obtain ⟨l5,hl5e⟩:∃ l5,l4 ++ cellB s.mn = l5:=⟨_,rfl⟩
     rw [hl5e] at h5
     have hl5:l5.length ≤ 600400:=by rw [← hl5e,List.length_append];omega
     have HL5:=hide hl5e
     have k5:=x4.bx.cell 2 _ rfl
     have m5:=x4.bx.cell 3 _ rfl
     have y54:=x4.bx.cell 4 _ rfl
     have y55:=x4.bx.cell 5 _ rfl
     have y56:=x4.bx.cell 6 _ rfl
     have y57:=x4.bx.cell 7 _ rfl
     have y58:=x4.bx.cell 8 _ rfl
     have y59:=x4.bx.cell 9 _ rfl
     clear hl5e h4 hz x3 k4 m4 y44 y45 y46 y47 y48 y49
     go_wp2_with fail
     refine (entWCell w5 b B A5 c5 l5 h5 s.mx b3 (by omega)).mono ?_
     rintro e w6 ⟨rfl,⟨A6,c6,h6⟩,hz⟩
     have Z6:=Z5.trans hz
     have x5:=x4.wz hz hne (by decide)
     obtain ⟨l6,hl6e⟩:∃ l6,l5 ++ cellB s.mx = l6:=⟨_,rfl⟩
     rw [hl6e] at h6
     have hl6:l6.length ≤ 600500:=by rw [← hl6e,List.length_append];omega
     have HL6:=hide hl6e
     have k6:=x5.bx.cell 2 _ rfl
     have m6:=x5.bx.cell 3 _ rfl
     have y64:=x5.bx.cell 4 _ rfl
     have y65:=x5.bx.cell 5 _ rfl
     have y66:=x5.bx.cell 6 _ rfl
     have y67:=x5.bx.cell 7 _ rfl
     have y68:=x5.bx.cell 8 _ rfl
     have y69:=x5.bx.cell 9 _ rfl
     clear hl6e h5 hz x4 k5 m5 y54 y55 y56 y57 y58 y59
     go_wp2_with fail
     go_end0
     refine ⟨rfl,⟨A6,c6,?_⟩,Z6⟩
     rw [← List.append_assoc,HL2.out, ← List.append_assoc,HL3.out, ← List.append_assoc,HL4.out, ← List.append_assoc,HL5.out,HL6.out]
     exact h6
   | false =>
     rw [if_neg (by simp)]
     (try rw [hhi] at x0);(try rw [hhi] at h1);(try rw [hhi] at Z1);(try rw [hhi] at k1);(try rw [hhi] at m1)
     clear b2 q4
     go_enter Tryz.func163,Tryz.ntmps163
     go_wp2_with fail
     generalize w.alloc (.cells #[.int .i64 s.rows.toInt,.int .i64 (n:Int),.bool true,.bool false,.int .u8 (s.mn.kind.toNat:Int),.int .i64 s.mn.n.toInt,.string s.mn.s,.int .u8 (s.mx.kind.toNat:Int),.int .i64 s.mx.n.toInt,.string s.mx.s] 201) = w1 at *
     generalize w.heap.size = bs at *
     have hl1:l.length ≤ 600000:=hl
     refine (entWNumN w1 b B A c l h1 n (by omega) (by omega)).mono ?_
     rintro e w2 ⟨rfl,⟨A2,c2,h2⟩,hz⟩
     have Z2:=Z1.trans hz
     have x1:=x0.wz hz hne (by decide)
     obtain ⟨l2,hl2e⟩:∃ l2,l ++ Var.put n = l2:=⟨_,rfl⟩
     rw [hl2e] at h2
     have hl2:l2.length ≤ 600100:=by rw [← hl2e,List.length_append];omega
     have HL2:=hide hl2e
     have k2:=x1.bx.cell 2 _ rfl
     have m2:=x1.bx.cell 3 _ rfl
     have y24:=x1.bx.cell 4 _ rfl
     have y25:=x1.bx.cell 5 _ rfl
     have y26:=x1.bx.cell 6 _ rfl
     have y27:=x1.bx.cell 7 _ rfl
     have y28:=x1.bx.cell 8 _ rfl
     have y29:=x1.bx.cell 9 _ rfl
     clear hl2e h1 hz x0 k1 m1
     go_wp2_with fail
     refine (entWNumN w2 b B A2 c2 l2 h2 1 (by omega) (by omega)).mono ?_
     rintro e w3 ⟨rfl,⟨A3,c3,h3⟩,hz⟩
     have Z3:=Z2.trans hz
     have x2:=x1.wz hz hne (by decide)
     obtain ⟨l3,hl3e⟩:∃ l3,l2 ++ Var.put 1 = l3:=⟨_,rfl⟩
     rw [hl3e] at h3
     have hl3:l3.length ≤ 600200:=by rw [← hl3e,List.length_append];omega
     have HL3:=hide hl3e
     have k3:=x2.bx.cell 2 _ rfl
     have m3:=x2.bx.cell 3 _ rfl
     have y34:=x2.bx.cell 4 _ rfl
     have y35:=x2.bx.cell 5 _ rfl
     have y36:=x2.bx.cell 6 _ rfl
     have y37:=x2.bx.cell 7 _ rfl
     have y38:=x2.bx.cell 8 _ rfl
     have y39:=x2.bx.cell 9 _ rfl
     clear hl3e h2 hz x1 k2 m2 y24 y25 y26 y27 y28 y29
     go_wp2_with fail
     refine (entWNumN w3 b B A3 c3 l3 h3 s.mn.kind.toNat (by omega) (by omega)).mono ?_
     rintro e w4 ⟨rfl,⟨A4,c4,h4⟩,hz⟩
     have Z4:=Z3.trans hz
     have x3:=x2.wz hz hne (by decide)
     obtain ⟨l4,hl4e⟩:∃ l4,l3 ++ Var.put s.mn.kind.toNat = l4:=⟨_,rfl⟩
     rw [hl4e] at h4
     have hl4:l4.length ≤ 600300:=by rw [← hl4e,List.length_append];omega
     have HL4:=hide hl4e
     have k4:=x3.bx.cell 2 _ rfl
     have m4:=x3.bx.cell 3 _ rfl
     have y44:=x3.bx.cell 4 _ rfl
     have y45:=x3.bx.cell 5 _ rfl
     have y46:=x3.bx.cell 6 _ rfl
     have y47:=x3.bx.cell 7 _ rfl
     have y48:=x3.bx.cell 8 _ rfl
     have y49:=x3.bx.cell 9 _ rfl
     clear hl4e h3 hz x2 k3 m3 y34 y35 y36 y37 y38 y39
     go_wp2_with fail
     refine (entWCell w4 b B A4 c4 l4 h4 s.mn b1 (by omega)).mono ?_
     rintro e w5 ⟨rfl,⟨A5,c5,h5⟩,hz⟩
     have Z5:=Z4.trans hz
     have x4:=x3.wz hz hne (by decide)
     obtain ⟨l5,hl5e⟩:∃ l5,l4 ++ cellB s.mn = l5:=⟨_,rfl⟩
     rw [hl5e] at h5
     have hl5:l5.length ≤ 600400:=by rw [← hl5e,List.length_append];omega
     have HL5:=hide hl5e
     have k5:=x4.bx.cell 2 _ rfl
     have m5:=x4.bx.cell 3 _ rfl
     have y54:=x4.bx.cell 4 _ rfl
     have y55:=x4.bx.cell 5 _ rfl
     have y56:=x4.bx.cell 6 _ rfl
     have y57:=x4.bx.cell 7 _ rfl
     have y58:=x4.bx.cell 8 _ rfl
     have y59:=x4.bx.cell 9 _ rfl
     clear hl5e h4 hz x3 k4 m4 y44 y45 y46 y47 y48 y49
     go_wp2_with fail
     go_end0
     refine ⟨rfl,⟨A5,c5,?_⟩,Z5⟩
     rw [← List.append_assoc,HL2.out, ← List.append_assoc,HL3.out, ← List.append_assoc,HL4.out,HL5.out]
     exact h5

section
open Go.RowKit

def stV (s:St):List Value:=[.int .i64 s.rows.toInt,.int .i64 s.nulls.toInt,.bool s.som,.bool s.high,.int .u8 (s.mn.kind.toNat:Int),.int .i64 s.mn.n.toInt,.string s.mn.s,.int .u8 (s.mx.kind.toNat:Int),.int .i64 s.mx.n.toInt,.string s.mx.s]
def stsV (l:List St):List Value:=l.flatMap stV
theorem stV_length (s:St):(stV s).length = 10:=rfl
theorem stV_one (s:St):∀ u ∈ stV s,u.oneCell' = true:=by
 intro u hu
 simp only [stV,List.mem_cons,List.not_mem_nil,or_false] at hu
 rcases hu with rfl | rfl | rfl | rfl | rfl | rfl | rfl | rfl | rfl | rfl <;> rfl
theorem stsV_one (l:List St):∀ u ∈ stsV l,u.oneCell' = true:=by
 intro u hu
 obtain ⟨s,_,hs⟩:=List.mem_flatMap.1 hu
 exact stV_one s u hs
/-- an entry, where its statistics lie -/
structure El where
 p:En
 A:Option Addr
 c:Nat
instance:Inhabited El:=⟨⟨default,none,0⟩⟩
def elV (x:El):List Value:=[.string x.p.name,.bool x.p.keys,.int .u64 (x.p.seq.toNat:Int),.int .i64 x.p.rows.toInt,.int .u32 (x.p.sch.toNat:Int),.slice x.A x.p.stats.length x.c]
def elsV (l:List El):List Value:=l.flatMap elV
theorem elV_length (x:El):(elV x).length = 6:=rfl
theorem elV_one (x:El):∀ u ∈ elV x,u.oneCell' = true:=by
 intro u hu
 simp only [elV,List.mem_cons,List.not_mem_nil,or_false] at hu
 rcases hu with rfl | rfl | rfl | rfl | rfl | rfl <;> rfl
section
variable {w w':World} {B n c:Nat} {A:Option Addr}
theorem Rd.stA {l:List St} (h:Rd w B 10 A n c (stsV l)) {i:Nat} (hi:i < l.length):∃ b off,A = some ⟨b,off,none⟩ ∧ b < B ∧ ∀ s,l.getD i default = s →
 (w.cell? ⟨b,off + i * 10,none⟩ = some (.int .i64 s.rows.toInt) ∧ w.cell? ⟨b,off + i * 10 + 1,none⟩ = some (.int .i64 s.nulls.toInt) ∧ w.cell? ⟨b,off + i * 10 + 2,none⟩ = some (.bool s.som) ∧ w.cell? ⟨b,off + i * 10 + 3,none⟩ = some (.bool s.high) ∧
 w.cell? ⟨b,off + i * 10 + 4,none⟩ = some (.int .u8 (s.mn.kind.toNat:Int)) ∧ w.cell? ⟨b,off + i * 10 + 5,none⟩ = some (.int .i64 s.mn.n.toInt) ∧ w.cell? ⟨b,off + i * 10 + 6,none⟩ = some (.string s.mn.s) ∧
 w.cell? ⟨b,off + i * 10 + 7,none⟩ = some (.int .u8 (s.mx.kind.toNat:Int)) ∧ w.cell? ⟨b,off + i * 10 + 8,none⟩ = some (.int .i64 s.mx.n.toInt) ∧ w.cell? ⟨b,off + i * 10 + 9,none⟩ = some (.string s.mx.s)):=by
 obtain ⟨b,off,rfl,hb,hc⟩:=h.el stV 10 stV_length hi (by omega)
 refine ⟨b,off,rfl,hb,fun s hs => ?_⟩
 subst hs
 exact ⟨hc 0 _ rfl,hc 1 _ rfl,hc 2 _ rfl,hc 3 _ rfl,hc 4 _ rfl,hc 5 _ rfl,hc 6 _ rfl,hc 7 _ rfl,hc 8 _ rfl,hc 9 _ rfl⟩
theorem Rd.elA {l:List El} (h:Rd w B 6 A n c (elsV l)) {i:Nat} (hi:i < l.length):∃ b off,A = some ⟨b,off,none⟩ ∧ b < B ∧ ∀ x,l.getD i default = x →
 (w.cell? ⟨b,off + i * 6,none⟩ = some (.string x.p.name) ∧ w.cell? ⟨b,off + i * 6 + 1,none⟩ = some (.bool x.p.keys) ∧ w.cell? ⟨b,off + i * 6 + 2,none⟩ = some (.int .u64 (x.p.seq.toNat:Int)) ∧
 w.cell? ⟨b,off + i * 6 + 3,none⟩ = some (.int .i64 x.p.rows.toInt) ∧ w.cell? ⟨b,off + i * 6 + 4,none⟩ = some (.int .u32 (x.p.sch.toNat:Int)) ∧ w.cell? ⟨b,off + i * 6 + 5,none⟩ = some (.slice x.A x.p.stats.length x.c)):=by
 obtain ⟨b,off,rfl,hb,hc⟩:=h.el elV 6 elV_length hi (by omega)
 refine ⟨b,off,rfl,hb,fun s hs => ?_⟩
 subst hs
 exact ⟨hc 0 _ rfl,hc 1 _ rfl,hc 2 _ rfl,hc 3 _ rfl,hc 4 _ rfl,hc 5 _ rfl⟩
end
/-- a list of entries in rows below B -/
structure EnR (w:World) (B:Nat) (A:Option Addr) (c:Nat) (l:List El):Prop where
 row:Rd w B 6 A l.length c (elsV l)
 ins:∀ x ∈ l,Rd w B 10 x.A x.p.stats.length x.c (stsV x.p.stats)
section
variable {w w':World} {B c:Nat} {A:Option Addr} {l:List El}
theorem EnR.below (h:EnR w B A c l) (hb:Below B w w'):EnR w' B A c l:=⟨h.row.below hb,fun x hx => (h.ins x hx).below hb⟩
end
theorem tySts:STy Tryz.prog 95 201 10 88 (.agg #[.int .i64 0,.int .i64 0,.bool false,.bool false,.int .u8 0,.int .i64 0,.string ByteArray.empty,.int .u8 0,.int .i64 0,.string ByteArray.empty]):=⟨Tryz.underlying95,by kernel_rfl,rfl,by decide,by decide⟩
theorem tyEls:STy Tryz.prog 46 97 6 72 (.agg #[.string ByteArray.empty,.bool false,.int .u64 0,.int .i64 0,.int .u32 0,.slice none 0 0]):=⟨Tryz.underlying46,by kernel_rfl,rfl,by decide,by decide⟩
end


theorem Rd.wz {w w':World} {B b sz n c:Nat} {A:Option Addr} {xs:List Value} (h:Rd w B sz A n c xs) (hz:Wz b B w w') (hb:B ≤ b) (hle:B ≤ w.heap.size):Rd w' B sz A n c xs:=h.below (hz.below hb (Nat.le_refl _) hle)
set_option maxHeartbeats 4000000 in
theorem entWEntry (w:World) (b B:Nat) (A:Option Addr) (c:Nat) (l:List UInt8) (h:WB w b B A c l) (hbB:B ≤ b) (x:En) (hx:rightE x = true) (SA:Option Addr) (sc:Nat) (hr:Rd w B 10 SA x.stats.length sc (stsV x.stats)) (hl:l.length ≤ 300000) :
 Calls Tryz.prog 103 #[.pointer (some ⟨b,0,none⟩),.agg #[.string x.name,.bool x.keys,.int .u64 (x.seq.toNat:Int),.int .i64 x.rows.toInt,.int .u32 (x.sch.toNat:Int),.slice SA x.stats.length sc]] w (WEnd w b B (l ++ entB x)):=by
 obtain ⟨g1,g2,g3,g4,g5,g6,g7⟩:=right_hasE hx
 have gp:=pathE_le g1
 obtain ⟨rw,hrw⟩:∃ n:Nat,x.rows.toInt = (n:Int):=⟨x.rows.toInt.toNat,by omega⟩
 have hE:entB x = tx x.name ++ (Var.put (flagN x.keys) ++ (Var.put x.seq.toNat ++ (Var.put rw ++ (Var.put x.sch.toNat ++ (Var.put x.stats.length ++ statsB x.stats))))):=by unfold entB;rw [hrw,Int.toNat_natCast]
 obtain ⟨kb,hkb⟩:∃ kb,x.keys = kb:=⟨_,rfl⟩
 rw [hE,hrw,hkb]
 have e33:IntKind.u64.wrap (rw:Int) = (rw:Int):=by rw [IntKind.wrap_u64];omega
 have e34:(rw:Int) % 18446744073709551616 = (rw:Int):=by omega
 have hs32:=x.sch.toNat_lt
 have hs64:=x.seq.toNat_lt
 have e35:IntKind.u64.wrap (x.sch.toNat:Int) = (x.sch.toNat:Int):=by rw [IntKind.wrap_u64];omega
 have e36:(x.sch.toNat:Int) % 18446744073709551616 = (x.sch.toNat:Int):=by omega
 have e37:IntKind.u64.wrap (x.stats.length:Int) = (x.stats.length:Int):=by rw [IntKind.wrap_u64];omega
 have e38:(x.stats.length:Int) % 18446744073709551616 = (x.stats.length:Int):=by omega
 have hrw64:rw < 18446744073709551616:=by omega
 have hseq:x.seq.toNat < 18446744073709551616:=by omega
 have hsch:x.sch.toNat < 18446744073709551616:=by omega
 have hln:x.stats.length < 18446744073709551616:=by omega
 have p1:=txE_le x.name (by omega)
 have p2:=Var.put_le10 (n:=flagN kb) (by unfold flagN;split <;> omega)
 have p3:=Var.put_le10 (n:=x.seq.toNat) hseq
 have p4:=Var.put_le10 (n:=rw) hrw64
 have p5:=Var.put_le10 (n:=x.sch.toNat) hsch
 have p6:=Var.put_le10 (n:=x.stats.length) hln
 have hns:x.name.size ≤ 64:=by omega
 have H8:Hid (x.stats.length ≤ 8):=hide g6
 have H7:=hide g7
 have x0:=boxT_new w #[.string x.name,.bool kb,.int .u64 (x.seq.toNat:Int),.int .i64 (rw:Int),.int .u32 (x.sch.toNat:Int),.slice SA x.stats.length sc] 97
 have hb1:=(Below.refl w.heap.size w).alloc (Nat.le_refl _) (.cells #[.string x.name,.bool kb,.int .u64 (x.seq.toNat:Int),.int .i64 (rw:Int),.int .u32 (x.sch.toNat:Int),.slice SA x.stats.length sc] 97)
 have h1:=h.keep hb1
 have Z1:=(Wz.refl b B w).trans (.of hb1)
 have hne:w.heap.size ≠ b:=by have:=h.z;omega
 have hbz:=h.z
 have hrW:=fun (w':World) hz => hr.wz (w':=w') hz hbB h.le
 clear hE hrw hkb hx g1 g2 g3 g4 g5 g6 g7 gp hs32 hs64 hb1 h
 go_enter Tryz.func103,Tryz.ntmps103
 go_wp2_with fail
 generalize w.alloc (.cells #[.string x.name,.bool kb,.int .u64 (x.seq.toNat:Int),.int .i64 (rw:Int),.int .u32 (x.sch.toNat:Int),.slice SA x.stats.length sc] 97) = w1 at *
 generalize hbs:w.heap.size = bs at *
 clear hbs
 have k1:=x0.bx.cell 0 _ rfl
 refine (entWText w1 b B A c l h1 x.name (by omega)).mono ?_
 rintro e w2 ⟨rfl,⟨A2,c2,h2⟩,hz⟩
 have Z2:=Z1.trans hz
 have x1:=x0.wz hz hne (by decide)
 obtain ⟨l2,hl2e⟩:∃ l2,l ++ tx x.name = l2:=⟨_,rfl⟩
 rw [hl2e] at h2
 have hl2:l2.length ≤ 300100:=by rw [← hl2e,List.length_append];omega
 have HL2:=hide hl2e
 have k21:=x1.bx.cell 1 _ rfl
 clear hl2e h1 hz x0
 clear k1
 go_upto_if 11 with fail
 go_cut [] from 12 to 15 (fun wx => (∃ A3 c3,WB wx b B A3 c3 (l2 ++ Var.put (flagN kb))) ∧ Wz b B w2 wx)
 case first =>
  cases kb with
  | true =>
    go_wp2_with fail
    refine (entWNumN w2 b B A2 c2 l2 h2 1 (by decide) (by omega)).mono ?_
    rintro e w3 ⟨rfl,h3,hz⟩
    go_wp2_with fail
    go_meet
    exact ⟨h3,hz⟩
  | false =>
    go_wp2_with fail
    refine (entWNumN w2 b B A2 c2 l2 h2 0 (by decide) (by omega)).mono ?_
    rintro e w3 ⟨rfl,h3,hz⟩
    go_wp2_with fail
    go_meet
    exact ⟨h3,hz⟩
 case rest =>
 obtain ⟨⟨A3,c3,h3⟩,hz⟩:=hcut
 have Z3:=Z2.trans hz
 have x2:=x1.wz hz hne (by decide)
 obtain ⟨l3,hl3e⟩:∃ l3,l2 ++ Var.put (flagN kb) = l3:=⟨_,rfl⟩
 rw [hl3e] at h3
 have hl3:l3.length ≤ 300200:=by rw [← hl3e,List.length_append];omega
 have HL3:=hide hl3e
 have k32:=x2.bx.cell 2 _ rfl
 clear hl3e h2 hz x1 k21
 go_wp2_with fail
 refine (entWNumN wc b B A3 c3 l3 h3 x.seq.toNat hseq (by omega)).mono ?_
 rintro e w4 ⟨rfl,⟨A4,c4,h4⟩,hz⟩
 have Z4:=Z3.trans hz
 have x3:=x2.wz hz hne (by decide)
 obtain ⟨l4,hl4e⟩:∃ l4,l3 ++ Var.put x.seq.toNat = l4:=⟨_,rfl⟩
 rw [hl4e] at h4
 have hl4:l4.length ≤ 300300:=by rw [← hl4e,List.length_append];omega
 have HL4:=hide hl4e
 have k43:=x3.bx.cell 3 _ rfl
 clear hl4e h3 hz x2
 clear k32
 go_wp2_with fail
 refine (entWNumN w4 b B A4 c4 l4 h4 rw hrw64 (by omega)).mono ?_
 rintro e w5 ⟨rfl,⟨A5,c5,h5⟩,hz⟩
 have Z5:=Z4.trans hz
 have x4:=x3.wz hz hne (by decide)
 obtain ⟨l5,hl5e⟩:∃ l5,l4 ++ Var.put rw = l5:=⟨_,rfl⟩
 rw [hl5e] at h5
 have hl5:l5.length ≤ 300400:=by rw [← hl5e,List.length_append];omega
 have HL5:=hide hl5e
 have k54:=x4.bx.cell 4 _ rfl
 clear hl5e h4 hz x3
 clear k43 e33 e34
 go_wp2_with fail
 refine (entWNumN w5 b B A5 c5 l5 h5 x.sch.toNat hsch (by omega)).mono ?_
 rintro e w6 ⟨rfl,⟨A6,c6,h6⟩,hz⟩
 have Z6:=Z5.trans hz
 have x5:=x4.wz hz hne (by decide)
 obtain ⟨l6,hl6e⟩:∃ l6,l5 ++ Var.put x.sch.toNat = l6:=⟨_,rfl⟩
 rw [hl6e] at h6
 have hl6:l6.length ≤ 300500:=by rw [← hl6e,List.length_append];omega
 have HL6:=hide hl6e
 have k65:=x5.bx.cell 5 _ rfl
 clear hl6e h5 hz x4
 clear k54 e35 e36
 go_wp2_with fail
 refine (entWNumN w6 b B A6 c6 l6 h6 x.stats.length hln (by omega)).mono ?_
 rintro e w7 ⟨rfl,⟨A7,c7,h7⟩,hz⟩
 have Z7:=Z6.trans hz
 have x6:=x5.wz hz hne (by decide)
 obtain ⟨l7,hl7e⟩:∃ l7,l6 ++ Var.put x.stats.length = l7:=⟨_,rfl⟩
 rw [hl7e] at h7
 have hl7:l7.length ≤ 300600:=by rw [← hl7e,List.length_append];omega
 have HL7:=hide hl7e
 have k75:=x6.bx.cell 5 _ rfl
 clear hl7e h6 hz x5
 clear k65 e37 e38 p1 p2 p3 p4 p5 p6 hrw64 hseq hsch hln
 have hr7:=hrW _ Z7
 have hle7:B ≤ w7.heap.size:=h7.le
 have hbz7:b < w7.heap.size:=h7.z
 go_wp2_with fail
 go_loopw [39] (fun iv wr => ∃ (k:Nat) (Ak:Option Addr) (ck:Nat),iv = .int .i64 (k:Int) ∧ k ≤ x.stats.length ∧ WB wr b B Ak ck (l7 ++ statsB (x.stats.take k)) ∧ Wz b B w7 wr) (fun iv _ => x.stats.length - (intOf iv).toNat)
 case atStart => exact ⟨0,A7,c7,rfl,Nat.zero_le _,by simpa [statsB] using h7,Wz.refl _ _ _⟩
 case round =>
  obtain ⟨k,Ak,ck,rfl,hk,hW,hzr⟩:=hrel
  have hrk:=hr7.wz hzr hbB hle7
  have hlen8:=H8.out
  by_cases hlt:k < x.stats.length
  ·have hmem:x.stats.getD k default ∈ x.stats:=getD_mem hlt
   have hst:=H7.out _ hmem
   have hnx:statsB (x.stats.take (k + 1)) = statsB (x.stats.take k) ++ statB (x.stats.getD k default):=flat_next hlt
   have hlk:(l7 ++ statsB (x.stats.take k)).length ≤ 400000:=by
    have:=flat_le (f:=statB) (l:=x.stats.take k) (m:=178) (fun s hs => statB_le (H7.out s (List.mem_of_mem_take hs)).2)
    have h9:(x.stats.take k).length ≤ 8:=by rw [List.length_take];omega
    have h10:(x.stats.take k).length * 178 ≤ 8 * 178:=Nat.mul_le_mul_right _ h9
    unfold statsB
    rw [List.length_append]
    omega
   obtain ⟨gb,off,hSA,hgb,hcells⟩:=hrk.stA hlt
   obtain ⟨s,hs⟩:∃ s,x.stats.getD k default = s:=⟨_,rfl⟩
   obtain ⟨f0,f1,f2,f3,f4,f5,f6,f7,f8,f9⟩:=hcells s hs
   rw [hs] at hst hnx
   have HNX:=hide hnx
   have hsOk:=hst.2
   have hb9:=(Below.refl wr.heap.size wr).alloc (Nat.le_refl _) (.cells #[.int .i64 s.rows.toInt,.int .i64 s.nulls.toInt,.bool s.som,.bool s.high,.int .u8 (s.mn.kind.toNat:Int),.int .i64 s.mn.n.toInt,.string s.mn.s,.int .u8 (s.mx.kind.toNat:Int),.int .i64 s.mx.n.toInt,.string s.mx.s] 201)
   have hW9:=hW.keep hb9
   have hz9:Wz b B w7 _:=hzr.trans (.of hb9)
   have HSA:=hide hSA
   clear hs hmem hst hnx hrk hcells hb9
   rw [hSA]
   clear hSA
   go_wp2_with fail
   refine (entWStat _ b B Ak ck _ hW9 s hsOk (by omega)).mono ?_
   rintro e w9 ⟨rfl,⟨A9,c9,h9⟩,hz⟩
   rw [List.append_assoc, ← HNX.out] at h9
   have HW9:=hide (And.intro h9 (hz9.trans hz))
   clear h9 hz hz9 hW9 hW hzr f0 f1 f2 f3 f4 f5 f6 f7 f8 f9
   go_wp2_with fail
   go_roundw
   case rel => exact ⟨k + 1,A9,c9,by go_num,hlt,HW9.out.1,HW9.out.2⟩
   case measure => have:=H8.out;simp [intOf];omega
  ·have hkk:k = x.stats.length:=by omega
   have HW9:Hid (WB wr b B Ak ck (l7 ++ statsB x.stats) ∧ Wz b B w wr):=hide ⟨by rw [hkk,List.take_length] at hW;exact hW,Z7.trans hzr⟩
   clear hW hzr hrk hkk
   go_wp2_with fail
   go_end0
   refine ⟨rfl,⟨Ak,ck,?_⟩,HW9.out.2⟩
   rw [← List.append_assoc,HL2.out, ← List.append_assoc,HL3.out, ← List.append_assoc,HL4.out, ← List.append_assoc,HL5.out, ← List.append_assoc,HL6.out, ← List.append_assoc,HL7.out]
   exact HW9.out.1


set_option maxHeartbeats 1000000 in
theorem entNamed (w:World) (s:ByteArray):Calls Tryz.prog 160 #[.string s] w fun e w' => e = .returned (.bool (pathOk s)) ∧ Below w.heap.size w w':=by
 by_cases h1:s.size < 1
 ·rw [pathOk_short h1]
  have t1:decide ((s.size:Int) < 1) = true:=decide_eq_true (by omega)
  clear h1
  go_enter Tryz.func160,Tryz.ntmps160
  go_wp2_with fail
  go_ret
  exact ⟨rfl,Below.refl _ _⟩
 ·have t1:decide ((s.size:Int) < 1) = false:=decide_eq_false (by omega)
  by_cases h2:24 < s.size
  ·rw [pathOk_long h2]
   have t2:decide ((24:Int) < (s.size:Int)) = true:=decide_eq_true (by omega)
   clear h1 h2
   go_enter Tryz.func160,Tryz.ntmps160
   go_wp2_with fail
   go_ret
   exact ⟨rfl,Below.refl _ _⟩
  ·have t2:decide ((24:Int) < (s.size:Int)) = false:=decide_eq_false (by omega)
   rw [pathOk_mid (by omega) (by omega)]
   have hsz:s.size ≤ 24:=by omega
   obtain ⟨res,hres⟩:∃ res,res = allFrom s (pathAt s) s.size 0:=⟨_,rfl⟩
   rw [← hres]
   have HRES:=hide hres
   clear h1 h2 hres
   go_enter Tryz.func160,Tryz.ntmps160
   go_wp2_with fail
   go_loopw [4] (fun _ w' => ∃ (pos b:Nat),w' = w.iter s pos ∧ Hid (allFrom s (pathAt s) b pos = res) ∧ s.size ≤ pos + b) (fun _ w' => s.size - w'.iterPos w.heap.size)
   case atStart => exact ⟨0,s.size,rfl,hide HRES.out.symm,by omega⟩
   case round =>
    obtain ⟨pos,b,rfl,hc,hb⟩:=hrel
    by_cases hp:pos < s.size
    ·have hnx:∀ ty,(Instr.next (.pointer (some ⟨w.heap.size,0,none⟩)) true ty).run Tryz.prog (w.iter s pos) = .ok (.tuple #[.bool true,.int .i64 pos,.int .i32 (sgn s pos:Int)]) (w.iter s (pos + wid s pos)):=fun ty => run_next_any w s pos ty hp
     have hwp:=wid_pos s pos hp
     have HM:=hide (show s.size - (pos + wid s pos) < s.size - pos by omega)
     have HP:=hide hp
     have HB:=hide hb
     clear hb
     generalize hcc:sgn s pos = c at *
     have HCC:=hide hcc
     clear hcc hwp hp
     rcases (show (c < 45) ∨ (c = 45) ∨ (c = 46) ∨ (c = 47) ∨ (48 ≤ c ∧ c ≤ 57) ∨ (58 ≤ c ∧ c ≤ 96) ∨ (97 ≤ c ∧ c ≤ 122) ∨ (123 ≤ c) by omega) with g | g | g | g | g | g | g | g
     ·have a1:decide ((97:Int) ≤ (c:Int)) = false:=decide_eq_false (by omega)
      have a2:decide ((c:Int) ≤ 122) = true:=decide_eq_true (by omega)
      have a3:decide ((48:Int) ≤ (c:Int)) = false:=decide_eq_false (by omega)
      have a4:decide ((c:Int) ≤ 57) = true:=decide_eq_true (by omega)
      have a5:((c:Int) == 47) = false:=by rw [beq_eq_false_iff_ne];omega
      have a6:((c:Int) == 45) = false:=by rw [beq_eq_false_iff_ne];omega
      have HO:Hid (pathAt s pos = false):=hide (by rw [pathAt_eq s pos c HCC.out];exact decide_eq_false (by omega))
      have HG:=hide g
      clear g
      go_wp2_with fail
      go_ret
      have he:=hc.out
      rw [allFrom_no s _ b pos HP.out HB.out HO.out] at he
      exact ⟨by rw [← he];rfl,(Below.refl _ _).alloc (Nat.le_refl _) _⟩
     ·have a1:decide ((97:Int) ≤ (c:Int)) = false:=decide_eq_false (by omega)
      have a2:decide ((c:Int) ≤ 122) = true:=decide_eq_true (by omega)
      have a3:decide ((48:Int) ≤ (c:Int)) = false:=decide_eq_false (by omega)
      have a4:decide ((c:Int) ≤ 57) = true:=decide_eq_true (by omega)
      have a5:((c:Int) == 47) = false:=by rw [beq_eq_false_iff_ne];omega
      have a6:((c:Int) == 45) = true:=by rw [beq_iff_eq];omega
      have HO:Hid (pathAt s pos = true):=hide (by rw [pathAt_eq s pos c HCC.out];exact decide_eq_true (by omega))
      have HG:=hide g
      clear g
      go_wp2_with fail
      go_roundw
      case rel =>
       obtain ⟨b',h1,h2⟩:=allFrom_yes s _ b pos HP.out HB.out HO.out
       exact ⟨_,b',rfl,hide (h1 ▸ hc.out),h2⟩
      case measure => simpa using HM.out
     ·have a1:decide ((97:Int) ≤ (c:Int)) = false:=decide_eq_false (by omega)
      have a2:decide ((c:Int) ≤ 122) = true:=decide_eq_true (by omega)
      have a3:decide ((48:Int) ≤ (c:Int)) = false:=decide_eq_false (by omega)
      have a4:decide ((c:Int) ≤ 57) = true:=decide_eq_true (by omega)
      have a5:((c:Int) == 47) = false:=by rw [beq_eq_false_iff_ne];omega
      have a6:((c:Int) == 45) = false:=by rw [beq_eq_false_iff_ne];omega
      have HO:Hid (pathAt s pos = false):=hide (by rw [pathAt_eq s pos c HCC.out];exact decide_eq_false (by omega))
      have HG:=hide g
      clear g
      go_wp2_with fail
      go_ret
      have he:=hc.out
      rw [allFrom_no s _ b pos HP.out HB.out HO.out] at he
      exact ⟨by rw [← he];rfl,(Below.refl _ _).alloc (Nat.le_refl _) _⟩
     ·have a1:decide ((97:Int) ≤ (c:Int)) = false:=decide_eq_false (by omega)
      have a2:decide ((c:Int) ≤ 122) = true:=decide_eq_true (by omega)
      have a3:decide ((48:Int) ≤ (c:Int)) = false:=decide_eq_false (by omega)
      have a4:decide ((c:Int) ≤ 57) = true:=decide_eq_true (by omega)
      have a5:((c:Int) == 47) = true:=by rw [beq_iff_eq];omega
      have a6:((c:Int) == 45) = false:=by rw [beq_eq_false_iff_ne];omega
      have HO:Hid (pathAt s pos = true):=hide (by rw [pathAt_eq s pos c HCC.out];exact decide_eq_true (by omega))
      have HG:=hide g
      clear g
      go_wp2_with fail
      go_roundw
      case rel =>
       obtain ⟨b',h1,h2⟩:=allFrom_yes s _ b pos HP.out HB.out HO.out
       exact ⟨_,b',rfl,hide (h1 ▸ hc.out),h2⟩
      case measure => simpa using HM.out
     ·have a1:decide ((97:Int) ≤ (c:Int)) = false:=decide_eq_false (by omega)
      have a2:decide ((c:Int) ≤ 122) = true:=decide_eq_true (by omega)
      have a3:decide ((48:Int) ≤ (c:Int)) = true:=decide_eq_true (by omega)
      have a4:decide ((c:Int) ≤ 57) = true:=decide_eq_true (by omega)
      have a5:((c:Int) == 47) = false:=by rw [beq_eq_false_iff_ne];omega
      have a6:((c:Int) == 45) = false:=by rw [beq_eq_false_iff_ne];omega
      have HO:Hid (pathAt s pos = true):=hide (by rw [pathAt_eq s pos c HCC.out];exact decide_eq_true (by omega))
      have HG:=hide g
      clear g
      go_wp2_with fail
      go_roundw
      case rel =>
       obtain ⟨b',h1,h2⟩:=allFrom_yes s _ b pos HP.out HB.out HO.out
       exact ⟨_,b',rfl,hide (h1 ▸ hc.out),h2⟩
      case measure => simpa using HM.out
     ·have a1:decide ((97:Int) ≤ (c:Int)) = false:=decide_eq_false (by omega)
      have a2:decide ((c:Int) ≤ 122) = true:=decide_eq_true (by omega)
      have a3:decide ((48:Int) ≤ (c:Int)) = true:=decide_eq_true (by omega)
      have a4:decide ((c:Int) ≤ 57) = false:=decide_eq_false (by omega)
      have a5:((c:Int) == 47) = false:=by rw [beq_eq_false_iff_ne];omega
      have a6:((c:Int) == 45) = false:=by rw [beq_eq_false_iff_ne];omega
      have HO:Hid (pathAt s pos = false):=hide (by rw [pathAt_eq s pos c HCC.out];exact decide_eq_false (by omega))
      have HG:=hide g
      clear g
      go_wp2_with fail
      go_ret
      have he:=hc.out
      rw [allFrom_no s _ b pos HP.out HB.out HO.out] at he
      exact ⟨by rw [← he];rfl,(Below.refl _ _).alloc (Nat.le_refl _) _⟩
     ·have a1:decide ((97:Int) ≤ (c:Int)) = true:=decide_eq_true (by omega)
      have a2:decide ((c:Int) ≤ 122) = true:=decide_eq_true (by omega)
      have a3:decide ((48:Int) ≤ (c:Int)) = true:=decide_eq_true (by omega)
      have a4:decide ((c:Int) ≤ 57) = false:=decide_eq_false (by omega)
      have a5:((c:Int) == 47) = false:=by rw [beq_eq_false_iff_ne];omega
      have a6:((c:Int) == 45) = false:=by rw [beq_eq_false_iff_ne];omega
      have HO:Hid (pathAt s pos = true):=hide (by rw [pathAt_eq s pos c HCC.out];exact decide_eq_true (by omega))
      have HG:=hide g
      clear g
      go_wp2_with fail
      go_roundw
      case rel =>
       obtain ⟨b',h1,h2⟩:=allFrom_yes s _ b pos HP.out HB.out HO.out
       exact ⟨_,b',rfl,hide (h1 ▸ hc.out),h2⟩
      case measure => simpa using HM.out
     ·have a1:decide ((97:Int) ≤ (c:Int)) = true:=decide_eq_true (by omega)
      have a2:decide ((c:Int) ≤ 122) = false:=decide_eq_false (by omega)
      have a3:decide ((48:Int) ≤ (c:Int)) = true:=decide_eq_true (by omega)
      have a4:decide ((c:Int) ≤ 57) = false:=decide_eq_false (by omega)
      have a5:((c:Int) == 47) = false:=by rw [beq_eq_false_iff_ne];omega
      have a6:((c:Int) == 45) = false:=by rw [beq_eq_false_iff_ne];omega
      have HO:Hid (pathAt s pos = false):=hide (by rw [pathAt_eq s pos c HCC.out];exact decide_eq_false (by omega))
      have HG:=hide g
      clear g
      go_wp2_with fail
      go_ret
      have he:=hc.out
      rw [allFrom_no s _ b pos HP.out HB.out HO.out] at he
      exact ⟨by rw [← he];rfl,(Below.refl _ _).alloc (Nat.le_refl _) _⟩
    ·have hnx:∀ ty,(Instr.next (.pointer (some ⟨w.heap.size,0,none⟩)) true ty).run Tryz.prog (w.iter s pos) = _:=fun ty => run_next_end w s pos ty hp
     have he:=hc.out
     rw [allFrom_end s _ b pos hp] at he
     have HE:=hide he
     clear he
     go_wp2_with fail
     go_ret
     exact ⟨by rw [← HE.out];rfl,(Below.refl _ _).alloc (Nat.le_refl _) _⟩


/-! ### value.Of -/
theorem cellErr_at {c:Cl} {k:Nat} {n:Int} (hk:c.kind.toNat = k) (hn:c.n = n):cellErr c = if 3 < k then 10 else if (k ≠ 3 ∧ emp c.s = false) ∨ (k ≠ 1 ∧ k ≠ 2 ∧ n ≠ 0) ∨ (k = 2 ∧ n ≠ 0 ∧ n ≠ 1) then 1 else if 64 < c.s.size then 5 else 0:=by unfold cellErr;rw [hk,hn]
theorem emp_long {s:ByteArray} (h:emp s = true):s.size = 0:=by rw [emp_size] at h;simpa using h
set_option maxHeartbeats 4000000 in
theorem valOf (w:World) (c:Cl):Calls Tryz.prog 237 #[.agg #[.int .u8 (c.kind.toNat:Int),.int .i64 c.n,.string c.s]] w fun e w' => ∃ v,e = .returned (.tuple #[v,.int .i64 (cellErr c:Int)]) ∧ Below w.heap.size w w':=by
 have hkb:c.kind.toNat < 256:=c.kind.toNat_lt
 obtain ⟨k,hk⟩:∃ k,c.kind.toNat = k:=⟨_,rfl⟩
 obtain ⟨n,hn⟩:∃ n,c.n = n:=⟨_,rfl⟩
 have hce:=cellErr_at hk hn
 have hE:emp c.s = c.s.toList.isEmpty:=rfl
 have hL:=emp_long (s:=c.s)
 rw [hk] at hkb
 obtain ⟨s,hs⟩:∃ s,c.s = s:=⟨_,rfl⟩
 obtain ⟨er,her⟩:∃ er,cellErr c = er:=⟨_,rfl⟩
 rw [hk,hn,hs,her]
 rw [hs,her] at hce
 rw [hs] at hE hL
 clear hk hn hs her
 have hb1:=(Below.refl w.heap.size w).alloc (Nat.le_refl _) (.cells #[.int .u8 (k:Int),.int .i64 n,.string s] 199)
 rcases (show k = 0 ∨ k = 1 ∨ k = 2 ∨ k = 3 ∨ 3 < k by omega) with rfl | rfl | rfl | rfl | h3
 ·cases he:emp s with
  | true =>
    by_cases h0:n = 0
    ·by_cases h64:64 < s.size
     ·exact absurd (hL he) (by omega)
     ·obtain rfl:er = 0:=by rw [hce];rw [if_neg (by omega),if_neg (by rw [he,h0];simp),if_neg h64]
      have t1:s.toList.isEmpty = true:=by rw [← hE];exact he
      have t2:(n == 0) = true:=by rw [beq_iff_eq];exact h0
      have t3:decide ((s.size:Int) ≤ 64) = true:=decide_eq_true (by omega)
      clear hce hE hL hkb
      go_enter Tryz.func237,Tryz.ntmps237
      go_wp2_with fail
      go_ret2
      exact ⟨_,rfl,(Below.refl w.heap.size w).alloc (Nat.le_refl _) _⟩
    ·by_cases h1:n = 1
     ·obtain rfl:er = 1:=by rw [hce];rw [if_neg (by omega),if_pos (.inr (.inl ⟨by decide,by decide,h0⟩))]
      have t1:s.toList.isEmpty = true:=by rw [← hE];exact he
      have t2:(n == 0) = false:=by rw [beq_eq_false_iff_ne];exact h0
      have t4:(n == 1) = true:=by rw [beq_iff_eq];exact h1
      clear hce hE hL hkb
      go_enter Tryz.func237,Tryz.ntmps237
      go_wp2_with fail
      go_ret2
      exact ⟨_,rfl,(Below.refl w.heap.size w).alloc (Nat.le_refl _) _⟩
     ·obtain rfl:er = 1:=by rw [hce];rw [if_neg (by omega),if_pos (.inr (.inl ⟨by decide,by decide,h0⟩))]
      have t1:s.toList.isEmpty = true:=by rw [← hE];exact he
      have t2:(n == 0) = false:=by rw [beq_eq_false_iff_ne];exact h0
      have t4:(n == 1) = false:=by rw [beq_eq_false_iff_ne];exact h1
      clear hce hE hL hkb
      go_enter Tryz.func237,Tryz.ntmps237
      go_wp2_with fail
      go_ret2
      exact ⟨_,rfl,(Below.refl w.heap.size w).alloc (Nat.le_refl _) _⟩
  | false =>
    by_cases h0:n = 0
    ·by_cases h64:64 < s.size
     ·obtain rfl:er = 1:=by rw [hce];rw [if_neg (by omega),if_pos (.inl ⟨by decide,he⟩)]
      have t1:s.toList.isEmpty = false:=by rw [← hE];exact he
      have t2:(n == 0) = true:=by rw [beq_iff_eq];exact h0
      have t3:decide ((s.size:Int) ≤ 64) = false:=decide_eq_false (by omega)
      clear hce hE hL hkb
      go_enter Tryz.func237,Tryz.ntmps237
      go_wp2_with fail
      go_ret2
      exact ⟨_,rfl,(Below.refl w.heap.size w).alloc (Nat.le_refl _) _⟩
     ·obtain rfl:er = 1:=by rw [hce];rw [if_neg (by omega),if_pos (.inl ⟨by decide,he⟩)]
      have t1:s.toList.isEmpty = false:=by rw [← hE];exact he
      have t2:(n == 0) = true:=by rw [beq_iff_eq];exact h0
      have t3:decide ((s.size:Int) ≤ 64) = true:=decide_eq_true (by omega)
      clear hce hE hL hkb
      go_enter Tryz.func237,Tryz.ntmps237
      go_wp2_with fail
      go_ret2
      exact ⟨_,rfl,(Below.refl w.heap.size w).alloc (Nat.le_refl _) _⟩
    ·by_cases h1:n = 1
     ·obtain rfl:er = 1:=by rw [hce];rw [if_neg (by omega),if_pos (.inl ⟨by decide,he⟩)]
      have t1:s.toList.isEmpty = false:=by rw [← hE];exact he
      have t2:(n == 0) = false:=by rw [beq_eq_false_iff_ne];exact h0
      have t4:(n == 1) = true:=by rw [beq_iff_eq];exact h1
      clear hce hE hL hkb
      go_enter Tryz.func237,Tryz.ntmps237
      go_wp2_with fail
      go_ret2
      exact ⟨_,rfl,(Below.refl w.heap.size w).alloc (Nat.le_refl _) _⟩
     ·obtain rfl:er = 1:=by rw [hce];rw [if_neg (by omega),if_pos (.inl ⟨by decide,he⟩)]
      have t1:s.toList.isEmpty = false:=by rw [← hE];exact he
      have t2:(n == 0) = false:=by rw [beq_eq_false_iff_ne];exact h0
      have t4:(n == 1) = false:=by rw [beq_eq_false_iff_ne];exact h1
      clear hce hE hL hkb
      go_enter Tryz.func237,Tryz.ntmps237
      go_wp2_with fail
      go_ret2
      exact ⟨_,rfl,(Below.refl w.heap.size w).alloc (Nat.le_refl _) _⟩
 ·cases he:emp s with
  | true =>
    by_cases h0:n = 0
    ·by_cases h64:64 < s.size
     ·exact absurd (hL he) (by omega)
     ·obtain rfl:er = 0:=by rw [hce];rw [if_neg (by omega),if_neg (by rw [he,h0];simp),if_neg h64]
      have t1:s.toList.isEmpty = true:=by rw [← hE];exact he
      have t2:(n == 0) = true:=by rw [beq_iff_eq];exact h0
      have t3:decide ((s.size:Int) ≤ 64) = true:=decide_eq_true (by omega)
      clear hce hE hL hkb
      go_enter Tryz.func237,Tryz.ntmps237
      go_wp2_with fail
      go_ret2
      exact ⟨_,rfl,(Below.refl w.heap.size w).alloc (Nat.le_refl _) _⟩
    ·by_cases h1:n = 1
     ·obtain rfl:er = 0:=by rw [hce];rw [if_neg (by omega),if_neg (by rw [he];simp),if_neg (by have:=hL he;omega)]
      have t1:s.toList.isEmpty = true:=by rw [← hE];exact he
      have t2:(n == 0) = false:=by rw [beq_eq_false_iff_ne];exact h0
      have t4:(n == 1) = true:=by rw [beq_iff_eq];exact h1
      clear hce hE hL hkb
      go_enter Tryz.func237,Tryz.ntmps237
      go_wp2_with fail
      go_ret2
      exact ⟨_,rfl,(Below.refl w.heap.size w).alloc (Nat.le_refl _) _⟩
     ·obtain rfl:er = 0:=by rw [hce];rw [if_neg (by omega),if_neg (by rw [he];simp),if_neg (by have:=hL he;omega)]
      have t1:s.toList.isEmpty = true:=by rw [← hE];exact he
      have t2:(n == 0) = false:=by rw [beq_eq_false_iff_ne];exact h0
      have t4:(n == 1) = false:=by rw [beq_eq_false_iff_ne];exact h1
      clear hce hE hL hkb
      go_enter Tryz.func237,Tryz.ntmps237
      go_wp2_with fail
      go_ret2
      exact ⟨_,rfl,(Below.refl w.heap.size w).alloc (Nat.le_refl _) _⟩
  | false =>
    by_cases h0:n = 0
    ·by_cases h64:64 < s.size
     ·obtain rfl:er = 1:=by rw [hce];rw [if_neg (by omega),if_pos (.inl ⟨by decide,he⟩)]
      have t1:s.toList.isEmpty = false:=by rw [← hE];exact he
      have t2:(n == 0) = true:=by rw [beq_iff_eq];exact h0
      have t3:decide ((s.size:Int) ≤ 64) = false:=decide_eq_false (by omega)
      clear hce hE hL hkb
      go_enter Tryz.func237,Tryz.ntmps237
      go_wp2_with fail
      go_ret2
      exact ⟨_,rfl,(Below.refl w.heap.size w).alloc (Nat.le_refl _) _⟩
     ·obtain rfl:er = 1:=by rw [hce];rw [if_neg (by omega),if_pos (.inl ⟨by decide,he⟩)]
      have t1:s.toList.isEmpty = false:=by rw [← hE];exact he
      have t2:(n == 0) = true:=by rw [beq_iff_eq];exact h0
      have t3:decide ((s.size:Int) ≤ 64) = true:=decide_eq_true (by omega)
      clear hce hE hL hkb
      go_enter Tryz.func237,Tryz.ntmps237
      go_wp2_with fail
      go_ret2
      exact ⟨_,rfl,(Below.refl w.heap.size w).alloc (Nat.le_refl _) _⟩
    ·by_cases h1:n = 1
     ·obtain rfl:er = 1:=by rw [hce];rw [if_neg (by omega),if_pos (.inl ⟨by decide,he⟩)]
      have t1:s.toList.isEmpty = false:=by rw [← hE];exact he
      have t2:(n == 0) = false:=by rw [beq_eq_false_iff_ne];exact h0
      have t4:(n == 1) = true:=by rw [beq_iff_eq];exact h1
      clear hce hE hL hkb
      go_enter Tryz.func237,Tryz.ntmps237
      go_wp2_with fail
      go_ret2
      exact ⟨_,rfl,(Below.refl w.heap.size w).alloc (Nat.le_refl _) _⟩
     ·obtain rfl:er = 1:=by rw [hce];rw [if_neg (by omega),if_pos (.inl ⟨by decide,he⟩)]
      have t1:s.toList.isEmpty = false:=by rw [← hE];exact he
      have t2:(n == 0) = false:=by rw [beq_eq_false_iff_ne];exact h0
      have t4:(n == 1) = false:=by rw [beq_eq_false_iff_ne];exact h1
      clear hce hE hL hkb
      go_enter Tryz.func237,Tryz.ntmps237
      go_wp2_with fail
      go_ret2
      exact ⟨_,rfl,(Below.refl w.heap.size w).alloc (Nat.le_refl _) _⟩
 ·cases he:emp s with
  | true =>
    by_cases h0:n = 0
    ·by_cases h64:64 < s.size
     ·exact absurd (hL he) (by omega)
     ·obtain rfl:er = 0:=by rw [hce];rw [if_neg (by omega),if_neg (by rw [he,h0];simp),if_neg h64]
      have t1:s.toList.isEmpty = true:=by rw [← hE];exact he
      have t2:(n == 0) = true:=by rw [beq_iff_eq];exact h0
      have t3:decide ((s.size:Int) ≤ 64) = true:=decide_eq_true (by omega)
      clear hce hE hL hkb
      go_enter Tryz.func237,Tryz.ntmps237
      go_wp2_with fail
      go_ret2
      exact ⟨_,rfl,(Below.refl w.heap.size w).alloc (Nat.le_refl _) _⟩
    ·by_cases h1:n = 1
     ·obtain rfl:er = 0:=by rw [hce];rw [if_neg (by omega),if_neg (by rw [he];simp;omega),if_neg (by have:=hL he;omega)]
      have t1:s.toList.isEmpty = true:=by rw [← hE];exact he
      have t2:(n == 0) = false:=by rw [beq_eq_false_iff_ne];exact h0
      have t4:(n == 1) = true:=by rw [beq_iff_eq];exact h1
      clear hce hE hL hkb
      go_enter Tryz.func237,Tryz.ntmps237
      go_wp2_with fail
      go_ret2
      exact ⟨_,rfl,(Below.refl w.heap.size w).alloc (Nat.le_refl _) _⟩
     ·obtain rfl:er = 1:=by rw [hce];rw [if_neg (by omega),if_pos (.inr (.inr ⟨rfl,h0,h1⟩))]
      have t1:s.toList.isEmpty = true:=by rw [← hE];exact he
      have t2:(n == 0) = false:=by rw [beq_eq_false_iff_ne];exact h0
      have t4:(n == 1) = false:=by rw [beq_eq_false_iff_ne];exact h1
      clear hce hE hL hkb
      go_enter Tryz.func237,Tryz.ntmps237
      go_wp2_with fail
      go_ret2
      exact ⟨_,rfl,(Below.refl w.heap.size w).alloc (Nat.le_refl _) _⟩
  | false =>
    by_cases h0:n = 0
    ·by_cases h64:64 < s.size
     ·obtain rfl:er = 1:=by rw [hce];rw [if_neg (by omega),if_pos (.inl ⟨by decide,he⟩)]
      have t1:s.toList.isEmpty = false:=by rw [← hE];exact he
      have t2:(n == 0) = true:=by rw [beq_iff_eq];exact h0
      have t3:decide ((s.size:Int) ≤ 64) = false:=decide_eq_false (by omega)
      clear hce hE hL hkb
      go_enter Tryz.func237,Tryz.ntmps237
      go_wp2_with fail
      go_ret2
      exact ⟨_,rfl,(Below.refl w.heap.size w).alloc (Nat.le_refl _) _⟩
     ·obtain rfl:er = 1:=by rw [hce];rw [if_neg (by omega),if_pos (.inl ⟨by decide,he⟩)]
      have t1:s.toList.isEmpty = false:=by rw [← hE];exact he
      have t2:(n == 0) = true:=by rw [beq_iff_eq];exact h0
      have t3:decide ((s.size:Int) ≤ 64) = true:=decide_eq_true (by omega)
      clear hce hE hL hkb
      go_enter Tryz.func237,Tryz.ntmps237
      go_wp2_with fail
      go_ret2
      exact ⟨_,rfl,(Below.refl w.heap.size w).alloc (Nat.le_refl _) _⟩
    ·by_cases h1:n = 1
     ·obtain rfl:er = 1:=by rw [hce];rw [if_neg (by omega),if_pos (.inl ⟨by decide,he⟩)]
      have t1:s.toList.isEmpty = false:=by rw [← hE];exact he
      have t2:(n == 0) = false:=by rw [beq_eq_false_iff_ne];exact h0
      have t4:(n == 1) = true:=by rw [beq_iff_eq];exact h1
      clear hce hE hL hkb
      go_enter Tryz.func237,Tryz.ntmps237
      go_wp2_with fail
      go_ret2
      exact ⟨_,rfl,(Below.refl w.heap.size w).alloc (Nat.le_refl _) _⟩
     ·obtain rfl:er = 1:=by rw [hce];rw [if_neg (by omega),if_pos (.inl ⟨by decide,he⟩)]
      have t1:s.toList.isEmpty = false:=by rw [← hE];exact he
      have t2:(n == 0) = false:=by rw [beq_eq_false_iff_ne];exact h0
      have t4:(n == 1) = false:=by rw [beq_eq_false_iff_ne];exact h1
      clear hce hE hL hkb
      go_enter Tryz.func237,Tryz.ntmps237
      go_wp2_with fail
      go_ret2
      exact ⟨_,rfl,(Below.refl w.heap.size w).alloc (Nat.le_refl _) _⟩
 ·cases he:emp s with
  | true =>
    by_cases h0:n = 0
    ·by_cases h64:64 < s.size
     ·exact absurd (hL he) (by omega)
     ·obtain rfl:er = 0:=by rw [hce];rw [if_neg (by omega),if_neg (by rw [he,h0];simp),if_neg h64]
      have t1:s.toList.isEmpty = true:=by rw [← hE];exact he
      have t2:(n == 0) = true:=by rw [beq_iff_eq];exact h0
      have t3:decide ((s.size:Int) ≤ 64) = true:=decide_eq_true (by omega)
      clear hce hE hL hkb
      go_enter Tryz.func237,Tryz.ntmps237
      go_wp2_with fail
      go_ret2
      exact ⟨_,rfl,(Below.refl w.heap.size w).alloc (Nat.le_refl _) _⟩
    ·by_cases h1:n = 1
     ·obtain rfl:er = 1:=by rw [hce];rw [if_neg (by omega),if_pos (.inr (.inl ⟨by decide,by decide,h0⟩))]
      have t1:s.toList.isEmpty = true:=by rw [← hE];exact he
      have t2:(n == 0) = false:=by rw [beq_eq_false_iff_ne];exact h0
      have t4:(n == 1) = true:=by rw [beq_iff_eq];exact h1
      clear hce hE hL hkb
      go_enter Tryz.func237,Tryz.ntmps237
      go_wp2_with fail
      go_ret2
      exact ⟨_,rfl,(Below.refl w.heap.size w).alloc (Nat.le_refl _) _⟩
     ·obtain rfl:er = 1:=by rw [hce];rw [if_neg (by omega),if_pos (.inr (.inl ⟨by decide,by decide,h0⟩))]
      have t1:s.toList.isEmpty = true:=by rw [← hE];exact he
      have t2:(n == 0) = false:=by rw [beq_eq_false_iff_ne];exact h0
      have t4:(n == 1) = false:=by rw [beq_eq_false_iff_ne];exact h1
      clear hce hE hL hkb
      go_enter Tryz.func237,Tryz.ntmps237
      go_wp2_with fail
      go_ret2
      exact ⟨_,rfl,(Below.refl w.heap.size w).alloc (Nat.le_refl _) _⟩
  | false =>
    by_cases h0:n = 0
    ·by_cases h64:64 < s.size
     ·obtain rfl:er = 5:=by rw [hce];rw [if_neg (by omega),if_neg (by rw [he,h0];simp),if_pos h64]
      have t1:s.toList.isEmpty = false:=by rw [← hE];exact he
      have t2:(n == 0) = true:=by rw [beq_iff_eq];exact h0
      have t3:decide ((s.size:Int) ≤ 64) = false:=decide_eq_false (by omega)
      clear hce hE hL hkb
      go_enter Tryz.func237,Tryz.ntmps237
      go_wp2_with fail
      go_ret2
      exact ⟨_,rfl,(Below.refl w.heap.size w).alloc (Nat.le_refl _) _⟩
     ·obtain rfl:er = 0:=by rw [hce];rw [if_neg (by omega),if_neg (by rw [he,h0];simp),if_neg h64]
      have t1:s.toList.isEmpty = false:=by rw [← hE];exact he
      have t2:(n == 0) = true:=by rw [beq_iff_eq];exact h0
      have t3:decide ((s.size:Int) ≤ 64) = true:=decide_eq_true (by omega)
      clear hce hE hL hkb
      go_enter Tryz.func237,Tryz.ntmps237
      go_wp2_with fail
      go_ret2
      exact ⟨_,rfl,(Below.refl w.heap.size w).alloc (Nat.le_refl _) _⟩
    ·by_cases h1:n = 1
     ·obtain rfl:er = 1:=by rw [hce];rw [if_neg (by omega),if_pos (.inr (.inl ⟨by decide,by decide,h0⟩))]
      have t1:s.toList.isEmpty = false:=by rw [← hE];exact he
      have t2:(n == 0) = false:=by rw [beq_eq_false_iff_ne];exact h0
      have t4:(n == 1) = true:=by rw [beq_iff_eq];exact h1
      clear hce hE hL hkb
      go_enter Tryz.func237,Tryz.ntmps237
      go_wp2_with fail
      go_ret2
      exact ⟨_,rfl,(Below.refl w.heap.size w).alloc (Nat.le_refl _) _⟩
     ·obtain rfl:er = 1:=by rw [hce];rw [if_neg (by omega),if_pos (.inr (.inl ⟨by decide,by decide,h0⟩))]
      have t1:s.toList.isEmpty = false:=by rw [← hE];exact he
      have t2:(n == 0) = false:=by rw [beq_eq_false_iff_ne];exact h0
      have t4:(n == 1) = false:=by rw [beq_eq_false_iff_ne];exact h1
      clear hce hE hL hkb
      go_enter Tryz.func237,Tryz.ntmps237
      go_wp2_with fail
      go_ret2
      exact ⟨_,rfl,(Below.refl w.heap.size w).alloc (Nat.le_refl _) _⟩
 ·obtain rfl:er = 10:=by rw [hce,if_pos h3]
  have t0:((k:Int) == 0) = false:=by rw [beq_eq_false_iff_ne];omega
  have t1:((k:Int) == 1) = false:=by rw [beq_eq_false_iff_ne];omega
  have t2:((k:Int) == 2) = false:=by rw [beq_eq_false_iff_ne];omega
  have t3:((k:Int) == 3) = false:=by rw [beq_eq_false_iff_ne];omega
  clear hce hE hL hkb
  go_enter Tryz.func237,Tryz.ntmps237
  go_wp2_with fail
  go_ret2
  exact ⟨_,rfl,(Below.refl w.heap.size w).alloc (Nat.le_refl _) _⟩

/-! ### cells -/
theorem entCell (w:World) (x:Ce):Calls Tryz.prog 200 #[.agg #[.int .u8 (x.kind.toNat:Int),.int .i64 x.n.toInt,.string x.s]] w (RetVal w (.bool (bndOk x))):=by
 obtain ⟨er,her⟩:∃ er,cellErr x.cl = er:=⟨_,rfl⟩
 have hB:bndOk x = (decide (er = 0) && !decide (x.kind.toNat = 0)):=by unfold bndOk;rw [her]
 have HV:∀ w,Calls Tryz.prog 237 #[.agg #[.int .u8 (x.kind.toNat:Int),.int .i64 x.n.toInt,.string x.s]] w fun e w' => ∃ v,e = .returned (.tuple #[v,.int .i64 (er:Int)]) ∧ Below w.heap.size w w':=fun w => by rw [← her];exact valOf w x.cl
 rw [hB]
 have hkb:x.kind.toNat < 256:=x.kind.toNat_lt
 obtain ⟨k,hk⟩:∃ k,x.kind.toNat = k:=⟨_,rfl⟩
 rw [hk] at HV hkb ⊢
 generalize x.n.toInt = n at *
 generalize x.s = s at *
 have x0:=boxN_new w #[.int .u8 (k:Int),.int .i64 n,.string s] 199
 have hb1:=(Below.refl w.heap.size w).alloc (Nat.le_refl _) (.cells #[.int .u8 (k:Int),.int .i64 n,.string s] 199)
 obtain ⟨R,hR⟩:∃ R,(decide (er = 0) && !decide (k = 0)) = R:=⟨_,rfl⟩
 rw [hR]
 clear hB her hk
 go_enter Tryz.func200,Tryz.ntmps200
 go_wp2_with fail
 refine (HV _).mono ?_
 rintro e w2 ⟨v,rfl,hb2⟩
 have c0:=(x0.keep hb2 x0.z).cell 0 _ rfl
 have hB2:=below_call hb1 hb1.size hb2
 by_cases h0:er = 0
 ·have t0:((er:Int) == 0) = true:=by rw [beq_iff_eq];omega
  by_cases h1:k = 0
  ·have t1:((k:Int) != 0) = false:=by rw [bne_eq_false_iff_eq];omega
   obtain rfl:R = false:=by rw [← hR,h0,h1];rfl
   clear hR h0 h1
   go_wp2_with fail
   go_ret
   exact ⟨rfl,hB2⟩
  ·have t1:((k:Int) != 0) = true:=by rw [bne_iff_ne];omega
   obtain rfl:R = true:=by rw [← hR,h0,decide_eq_false h1];rfl
   clear hR h0 h1
   go_wp2_with fail
   go_ret
   exact ⟨rfl,hB2⟩
 ·have t0:((er:Int) == 0) = false:=by rw [beq_eq_false_iff_ne];omega
  obtain rfl:R = false:=by rw [← hR,decide_eq_false h0];rfl
  clear hR h0
  go_wp2_with fail
  go_ret
  exact ⟨rfl,hB2⟩


def zOk (k:Nat) (n:Int) (s:ByteArray):Bool:=decide (k = 0) && (decide (n = 0) && decide (s.toList = []))
theorem isZ_eq (c:Ce):isZ c = zOk c.kind.toNat c.n.toInt c.s:=by
 unfold isZ zOk
 rw [show decide (c.s.size = 0) = decide (c.s.toList = []) by
  rw [Bool.eq_iff_iff];simp only [decide_eq_true_eq]
  rw [Lib.toList_data,Lib.size_eq]
  exact List.length_eq_zero_iff]
def statF (rw nl:Int) (som high b1 b2 z1 z2:Bool) (k1 k2:Nat):Bool :=
 if nl < 0 then false else if rw < nl then false else if 256 < rw then false else if som = true then (if nl < rw then (if high = true then b1 && (b2 && decide (k1 = k2)) else b1 && z2) else false) else (if nl < rw then false else !high && (z1 && z2))
theorem statOk_eq (s:St):statOk s = statF s.rows.toInt s.nulls.toInt s.som s.high (bndOk s.mn) (bndOk s.mx) (zOk s.mn.kind.toNat s.mn.n.toInt s.mn.s) (zOk s.mx.kind.toNat s.mx.n.toInt s.mx.s) s.mn.kind.toNat s.mx.kind.toNat:=by
 rw [← isZ_eq, ← isZ_eq]
 unfold statOk statF
 generalize s.rows.toInt = rw
 generalize s.nulls.toInt = nl
 by_cases h1:nl < 0
 ·rw [if_pos h1,decide_eq_false (show ¬ 0 ≤ nl by omega)];rfl
 rw [if_neg h1,decide_eq_true (show 0 ≤ nl by omega)]
 by_cases h2:rw < nl
 ·rw [if_pos h2,decide_eq_false (show ¬ nl ≤ rw by omega)];simp
 rw [if_neg h2,decide_eq_true (show nl ≤ rw by omega)]
 by_cases h3:256 < rw
 ·rw [if_pos h3,decide_eq_false (show ¬ rw ≤ 256 by omega)];simp
 rw [if_neg h3,decide_eq_true (show rw ≤ 256 by omega)]
 simp only [Bool.true_and]
 cases s.som with
 | true =>
   simp only [if_true]
   by_cases h4:nl < rw
   ·rw [if_pos h4,decide_eq_true h4];cases s.high <;> simp
   ·rw [if_neg h4,decide_eq_false h4];simp
 | false =>
   simp only [Bool.false_eq_true,if_false]
   by_cases h4:nl < rw
   ·rw [if_pos h4,decide_eq_false (show ¬ nl = rw by omega)];simp
   ·rw [if_neg h4,decide_eq_true (show nl = rw by omega)];simp
set_option maxHeartbeats 4000000 in
theorem entStat (w:World) (s:St):Calls Tryz.prog 161 #[.agg #[.int .i64 s.rows.toInt,.int .i64 s.nulls.toInt,.bool s.som,.bool s.high,.int .u8 (s.mn.kind.toNat:Int),.int .i64 s.mn.n.toInt,.string s.mn.s,.int .u8 (s.mx.kind.toNat:Int),.int .i64 s.mx.n.toInt,.string s.mx.s]] w (RetVal w (.bool (statOk s))):=by
 rw [statOk_eq]
 have H1:=fun w => entCell w s.mn
 have H2:=fun w => entCell w s.mx
 generalize bndOk s.mn = b1 at *
 generalize bndOk s.mx = b2 at *
 obtain ⟨R,hR⟩:∃ R,statF s.rows.toInt s.nulls.toInt s.som s.high b1 b2 (zOk s.mn.kind.toNat s.mn.n.toInt s.mn.s) (zOk s.mx.kind.toNat s.mx.n.toInt s.mx.s) s.mn.kind.toNat s.mx.kind.toNat = R:=⟨_,rfl⟩
 rw [hR]
 have hk1:s.mn.kind.toNat < 256:=s.mn.kind.toNat_lt
 have hk2:s.mx.kind.toNat < 256:=s.mx.kind.toNat_lt
 generalize s.rows.toInt = rw at *
 generalize s.nulls.toInt = nl at *
 generalize s.som = som at *
 generalize s.high = high at *
 generalize s.mn.kind.toNat = k1 at *
 generalize s.mn.n.toInt = n1 at *
 generalize s.mn.s = s1 at *
 generalize s.mx.kind.toNat = k2 at *
 generalize s.mx.n.toInt = n2 at *
 generalize s.mx.s = s2 at *
 unfold statF at hR
 by_cases h1:nl < 0
 ·obtain rfl:R = false:=by rw [← hR];simp [h1]
  have t1:decide (nl < 0) = true:=decide_eq_true h1
  clear hR h1
  go_enter Tryz.func161,Tryz.ntmps161
  go_wp2_with fail
  go_ret
  exact ⟨rfl,(Below.refl w.heap.size w).alloc (Nat.le_refl _) _⟩
 have t1:decide (nl < 0) = false:=decide_eq_false h1
 by_cases h2:rw < nl
 ·obtain rfl:R = false:=by rw [← hR];simp [h1,h2]
  have t2:decide (rw < nl) = true:=decide_eq_true h2
  clear hR h1 h2
  go_enter Tryz.func161,Tryz.ntmps161
  go_wp2_with fail
  go_ret
  exact ⟨rfl,(Below.refl w.heap.size w).alloc (Nat.le_refl _) _⟩
 have t2:decide (rw < nl) = false:=decide_eq_false h2
 by_cases h3:(256:Int) < rw
 ·obtain rfl:R = false:=by rw [← hR];simp [h1,h2,h3]
  have t3:decide ((256:Int) < rw) = true:=decide_eq_true h3
  clear hR h1 h2 h3
  go_enter Tryz.func161,Tryz.ntmps161
  go_wp2_with fail
  go_ret
  exact ⟨rfl,(Below.refl w.heap.size w).alloc (Nat.le_refl _) _⟩
 have t3:decide ((256:Int) < rw) = false:=decide_eq_false h3
 rw [if_neg h1,if_neg h2,if_neg h3] at hR
 have hx0:=boxN_new w #[.int .i64 rw,.int .i64 nl,.bool som,.bool high,.int .u8 (k1:Int),.int .i64 n1,.string s1,.int .u8 (k2:Int),.int .i64 n2,.string s2] 201
 have hb1:=(Below.refl w.heap.size w).alloc (Nat.le_refl _) (.cells #[.int .i64 rw,.int .i64 nl,.bool som,.bool high,.int .u8 (k1:Int),.int .i64 n1,.string s1,.int .u8 (k2:Int),.int .i64 n2,.string s2] 201)
 clear h1 h2 h3
 by_cases h4:nl < rw
 ·have t4:decide (nl < rw) = true:=decide_eq_true h4
  cases som with
  | true =>
    cases high with
    | false =>
      replace hR:(b1 && zOk k2 n2 s2) = R:=by rw [← hR];simp [h4]
      clear h4
      go_enter Tryz.func161,Tryz.ntmps161
      go_wp2_with fail
      refine (H1 _).mono ?_
      rintro e w2 ⟨rfl,hb2⟩
      have hx2:=hx0.keep hb2 hx0.z
      have hB2:=below_call hb1 hb1.size hb2
      have c7:=hx2.cell 7 _ rfl
      have c8:=hx2.cell 8 _ rfl
      have c9:=hx2.cell 9 _ rfl
      cases b1 with
      | false =>
        obtain rfl:R = false:=by rw [← hR];simp
        clear hR
        go_wp2_with fail
        go_ret
        exact ⟨rfl,hB2⟩
      | true =>
        simp only [Bool.true_and] at hR
        have HR:=hide hR
        clear hR
        go_wp2_with fail
        all_goals go_ret
        all_goals refine ⟨?_,hB2⟩
        all_goals (rw [← HR.out];simp [zOk, *])
    | true =>
      replace hR:(b1 && (b2 && decide (k1 = k2))) = R:=by rw [← hR];simp [h4]
      clear h4
      go_enter Tryz.func161,Tryz.ntmps161
      go_wp2_with fail
      refine (H1 _).mono ?_
      rintro e w2 ⟨rfl,hb2⟩
      have hx2:=hx0.keep hb2 hx0.z
      have hB2:=below_call hb1 hb1.size hb2
      have c7:=hx2.cell 7 _ rfl
      have c8:=hx2.cell 8 _ rfl
      have c9:=hx2.cell 9 _ rfl
      cases b1 with
      | false =>
        obtain rfl:R = false:=by rw [← hR];simp
        clear hR
        go_wp2_with fail
        go_ret
        exact ⟨rfl,hB2⟩
      | true =>
        simp only [Bool.true_and] at hR
        go_wp2_with fail
        refine (H2 _).mono ?_
        rintro e w3 ⟨rfl,hb3⟩
        have hx3:=hx2.keep hb3 hx2.z
        have hB3:=below_call hB2 hB2.size hb3
        have d4:=hx3.cell 4 _ rfl
        have d7:=hx3.cell 7 _ rfl
        clear c7 c8 c9
        cases b2 with
        | false =>
          obtain rfl:R = false:=by rw [← hR];simp
          clear hR
          go_wp2_with fail
          go_ret
          exact ⟨rfl,hB3⟩
        | true =>
          simp only [Bool.true_and] at hR
          by_cases hkk:k1 = k2
          ·have t7:((k1:Int) == (k2:Int)) = true:=by rw [beq_iff_eq];omega
           have t8:((k2:Int) == (k1:Int)) = true:=by rw [beq_iff_eq];omega
           obtain rfl:R = true:=by rw [← hR];exact decide_eq_true hkk
           clear hkk hR
           go_wp2_with fail
           go_ret
           exact ⟨rfl,hB3⟩
          ·have t7:((k1:Int) == (k2:Int)) = false:=by rw [beq_eq_false_iff_ne];omega
           have t8:((k2:Int) == (k1:Int)) = false:=by rw [beq_eq_false_iff_ne];omega
           obtain rfl:R = false:=by rw [← hR];exact decide_eq_false hkk
           clear hkk hR
           go_wp2_with fail
           go_ret
           exact ⟨rfl,hB3⟩
  | false =>
    obtain rfl:R = false:=by rw [← hR];simp [h4]
    clear hR h4
    go_enter Tryz.func161,Tryz.ntmps161
    go_wp2_with fail
    go_ret
    exact ⟨rfl,(Below.refl w.heap.size w).alloc (Nat.le_refl _) _⟩
 ·have t4:decide (nl < rw) = false:=decide_eq_false h4
  cases som with
  | true =>
    obtain rfl:R = false:=by rw [← hR];simp [h4]
    clear hR h4
    go_enter Tryz.func161,Tryz.ntmps161
    go_wp2_with fail
    go_ret
    exact ⟨rfl,(Below.refl w.heap.size w).alloc (Nat.le_refl _) _⟩
  | false =>
    cases high with
    | true =>
      obtain rfl:R = false:=by rw [← hR];simp [h4]
      clear hR h4
      go_enter Tryz.func161,Tryz.ntmps161
      go_wp2_with fail
      go_ret
      exact ⟨rfl,(Below.refl w.heap.size w).alloc (Nat.le_refl _) _⟩
    | false =>
      replace hR:(zOk k1 n1 s1 && zOk k2 n2 s2) = R:=by rw [← hR];simp [h4]
      rw [← hR]
      clear hR h4
      go_enter Tryz.func161,Tryz.ntmps161
      go_wp2_with fail
      all_goals go_ret
      all_goals refine ⟨?_,(Below.refl w.heap.size w).alloc (Nat.le_refl _) _⟩
      all_goals simp [zOk, *]
end Go.Proofs.YtpfofefecamkfaaGreatDoor
