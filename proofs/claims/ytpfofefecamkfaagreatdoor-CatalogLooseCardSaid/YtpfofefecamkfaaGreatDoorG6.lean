/- WHAT SERVES THE TABLES' STATEMENTS, part 6: D7, MetaRd, MetaOP, MetaRS. No statement of the seat is proved here. -/
import Derived.Test.YtpfofefecamkfaaGreatDoorG5
import Derived.Deep.CutRange
namespace Go.Proofs.YtpfofefecamkfaaGreatDoor
open Go.RowKit
set_option maxRecDepth 100000

section

def open_ (l:List UInt8):Option (List UInt8):=if 4 ≤ l.length ∧ seal_ (l.take (l.length - 4)) = l then some (l.take (l.length - 4)) else none
def RetOpen (w:World) (l:List UInt8) (e:Ending) (w':World):Prop :=
 (∃ t v,open_ l = some t ∧ e = .returned (.tuple #[v,.bool true]) ∧ w'.ownsRow w.heap.size 5 1 v t.length (bytesV t) ∧ Below w.heap.size w w') ∨
 (open_ l = none ∧ e = .returned (.tuple #[.slice none 0 0,.bool false]) ∧ Below w.heap.size w w')

theorem crcOpen (w:World) (n c:Nat) (A:Option Addr) (l:List UInt8) (hr:Rd w w.heap.size 1 A n c (bytesV l)) (ht:Table w) (hl:l.length ≤ 1000000) :
 Calls Tryz.prog 108 #[.slice A n c] w (RetOpen w l):=by
 obtain rfl:n = l.length:=by have:=hr.len;rw [bytesV_length] at this;omega
 have HT:=hide ht
 have hpos:=ht.pos
 clear ht
 by_cases h4:4 ≤ l.length
 ·obtain ⟨m,hm⟩:∃ m,m = l.length - 4:=⟨_,rfl⟩
  have hm':(l.length:Int) - 4 = (m:Int):=by omega
  have hle:=hr.le
  have hsl:=cut_hi tyBytes A l.length c .i64 (m:Int) m rfl (by omega)
  have hrm:Rd w w.heap.size 1 A m c (bytesV (l.take m)):=by have:=hr.pre (hi:=m) (by omega);simpa [bytesV,List.map_take] using this
  have hml:(l.take m).length = m:=by rw [List.length_take];omega
  have HM:=hide hm
  have hm1:m ≤ 1000000:=by omega
  clear hm
  go_enter Tryz.func108,Tryz.ntmps108
  go_wp2_with fail
  refine (cloneBytes w _ _ c A _ hrm (bytesV_one _) (by omega) (Nat.le_refl _)).mono ?_
  rintro e w1 ⟨v1,rfl,hown1,hb1⟩
  obtain ⟨A1,c1,rfl,hr1⟩:=Rd.of_own hown1
  clear hm'
  go_wp2_with fail
  refine (crcSeal w1 _ c1 A1 _ hr1 (HT.out.below hb1 hpos) (by omega)).mono ?_
  rintro e w2 ⟨v2,rfl,hown2,hb2⟩
  have hb2':=below_call hb1 hb1.size hb2
  obtain ⟨A2,c2,rfl,hr2⟩:=Rd.of_own hown2
  go_wp2_with fail
  refine (equalBytes w2 w2.heap.size _ _ _ _ A2 A _ l hr2 ((hr.below hb2').more hb2'.size) (Nat.le_refl _)).mono ?_
  rintro e w3 ⟨rfl,hb3⟩
  have hb3':=below_call hb2' hb2'.size hb3
  have hown3:=own_below (own_below hown1 hb2) hb3
  by_cases heq:seal_ (l.take m) = l
  ·have t1:(seal_ (l.take m) == l) = true:=beq_iff_eq.2 heq
   have ho:open_ l = some (l.take m):=by unfold open_;rw [← HM.out,if_pos ⟨h4,heq⟩]
   have HO:=hide ho
   rw [t1]
   clear heq ho t1 hown1 hown2 hr1 hr2
   go_wp2_with fail
   go_ret2
   exact .inl ⟨_,_,HO.out,rfl,by rw [hml];exact hown3,hb3'⟩
  ·have t1:(seal_ (l.take m) == l) = false:=beq_eq_false_iff_ne.2 heq
   have ho:open_ l = none:=by unfold open_;rw [← HM.out,if_neg (fun h => heq h.2)]
   have HO:=hide ho
   rw [t1]
   clear heq ho t1 hown1 hown2 hr1 hr2
   go_wp2_with fail
   go_ret2
   exact .inr ⟨HO.out,rfl,hb3'⟩
 ·have ho:open_ l = none:=by unfold open_;rw [if_neg (fun h => h4 h.1)]
  have HO:=hide ho
  have t0:decide ((l.length:Int) < 4) = true:=by simp;omega
  clear h4 ho
  go_enter Tryz.func108,Tryz.ntmps108
  go_wp2_with fail
  go_ret2
  exact .inr ⟨HO.out,rfl,Below.refl _ _⟩





theorem retOpen_one {w w':World} {l:List UInt8} {e:Ending} (h:RetOpen w l e w') :
 Below w.heap.size w w' ∧ ∃ A c,e = .returned (.tuple #[.slice A ((open_ l).getD []).length c,.bool (open_ l).isSome]) ∧ Rd w' w'.heap.size 1 A ((open_ l).getD []).length c (bytesV ((open_ l).getD [])):=by
 rcases h with ⟨t,v,h1,rfl,hown,hb⟩ | ⟨h1,rfl,hb⟩
 ·obtain ⟨A,c,rfl,hr⟩:=Rd.of_own hown
  exact ⟨hb,A,c,by rw [h1];rfl,by rw [h1];exact hr⟩
 ·exact ⟨hb,none,0,by rw [h1];rfl,by rw [h1];exact Rd.nil _ _ _⟩


theorem schNum (w:World) (b:Nat) (A:Option Addr) (c:Nat) (l:List UInt8) (er:Nat) (h:RdrA w b A c l er) (most:Nat) (_hm:most < 18446744073709551616) :
 Calls Tryz.prog 169 #[.pointer (some ⟨b,0,none⟩),.int .u64 (most:Int)] w (NumEnd w b (num most l er)):=by
 have c0:=h.c0
 have c1:=h.c1
 have f0:=h.f0
 have f1:=h.f1
 go_enter Tryz.func169,Tryz.ntmps169
 by_cases he:er = 0
 ·subst he
  have c1:w.cell? ⟨b,1,none⟩ = some (.int .i64 0):=h.c1
  go_wp2_with fail
  refine (varGet w b _ c A l h.rd).mono ?_
  rintro e w1 ⟨rfl,rfl⟩
  have hused:=hide (show (Var.get l).2.1 ≤ 10 from Var.get_used l)
  by_cases hg:(Var.get l).2.2 = 0
  ·by_cases hb:most < (Var.get l).1
   ·have HN:=hide (num_m hg hb)
    obtain ⟨g1,hg1⟩:∃ g,g = (Var.get l).1:=⟨_,rfl⟩
    rw [← hg1] at hb ⊢
    rw [hg]
    generalize (Var.get l).2.1 = g2 at *
    clear hg hg1
    go_wp2_with fail
    go_ret
    exact ⟨by rw [HN.out];rfl,⟨A,c,by rw [HN.out];exact h.set1 40⟩,(Oth.refl b w).set 1 _⟩
   ·have HN:=hide (num_0 hg hb)
    have hk:(Var.get l).2.1 ≤ l.length:=(Var.get_ok (l:=l) (n:=(Var.get l).1) (k:=(Var.get l).2.1) (by rw [← hg])).2.1
    obtain ⟨A2,l2,hl2,s1,s2,hr2⟩:=rd_lo h.rd hk
    rw [← hl2] at HN
    obtain ⟨g1,hg1⟩:∃ g,g = (Var.get l).1:=⟨_,rfl⟩
    rw [← hg1] at hb HN ⊢
    rw [hg]
    generalize (Var.get l).2.1 = g2 at *
    have HR:=hide hr2
    clear hg hg1 hl2 hk hr2
    go_wp2_with fail
    go_ret
    exact ⟨by rw [HN.out];rfl,⟨A2,c - g2,by rw [HN.out];exact h.set0 HR.out⟩,(Oth.refl b w).set 0 _⟩
  ·have HN:=hide (num_g (most:=most) hg)
   obtain ⟨g3,hg3⟩:∃ g,g = (Var.get l).2.2:=⟨_,rfl⟩
   rw [← hg3] at hg HN ⊢
   generalize (Var.get l).2.1 = g2 at *
   generalize (Var.get l).1 = g1 at *
   have t1:((g3:Int) == 0) = false:=by rw [beq_eq_false_iff_ne];omega
   have t2:((g3:Int) != 0) = true:=by rw [bne_iff_ne];omega
   clear hg hg3
   go_wp2_with fail
   go_ret
   exact ⟨by rw [HN.out];rfl,⟨A,c,by rw [HN.out];exact h.set1 g3⟩,(Oth.refl b w).set 1 _⟩
 ·have HN:=hide (num_e (most:=most) (l:=l) he)
  have t1:((er:Int) != 0) = true:=by rw [bne_iff_ne];omega
  clear he
  go_wp2_with fail
  go_ret
  exact ⟨by rw [HN.out];rfl,⟨A,c,by rw [HN.out];exact h⟩,Oth.refl b w⟩

section
open Go.RowKit
theorem cloneB (w:World) (B n c:Nat) (A:Option Addr) (xs:List Value) (hr:Rd w B 1 A n c xs) (h1:∀ u ∈ xs,u.oneCell' = true) (hb:n * 1 ≤ 140737488355328) (hB:B ≤ w.heap.size) :
 Calls Tryz.prog 107 #[.slice A n c] w (RetRow w 5 1 n xs):=by
 have heq:=fun W => Lib.run_eql_slice_nil (P:=Tryz.prog) W 55 5 A n c 0 0 Tryz.underlying55
 cases A with
 | none =>
   obtain ⟨rfl,rfl⟩:=hr.none_
   go_enter Tryz.func107,Tryz.ntmps107
   go_wp2_with fail
   go_ret
   exact ⟨_,rfl,World.ownsRow_nil _ _ _ _,Below.refl _ _⟩
 | some ad =>
   have hlit:=own_lit w (base:=w.heap.size) 5 1 0 #[] (Nat.le_refl _) (by decide) rfl
   have hr':=hr.alloc hB (.cells #[] 5)
   go_enter Tryz.func107,Tryz.ntmps107
   go_wp2_with (at_builtin;refine wpList_app _ tyBytes rfl _ _ rfl w.heap.size _ 0 [] rfl hlit B (some ad) _ c _ rfl hr' h1 (by omega) (by simp) ?_;intro v2 w2 hown2 hg2 _;simp only [Nat.zero_add,List.nil_append] at hown2;have hb2:=below_app ((Below.refl w.heap.size w).alloc (Nat.le_refl _) (.cells #[] 5)) (Nat.le_refl _) hlit hg2 (by simp))
   go_ret
   exact ⟨v2,rfl,hown2,hb2⟩
theorem set2_keep {W:World} {b:Nat} {p:Addr} {v:Option Value} (hne:p.block ≠ b) (h:W.cell? p = v) (x y:Value):((W.setCell ⟨b,0,none⟩ x).setCell ⟨b,1,none⟩ y).cell? p = v:=by
 rw [World.cell?_setCell_other,World.cell?_setCell_other]
 ·exact h
 ·intro q;exact hne (by rw [← q])
 ·intro q;exact hne (by rw [← q])
theorem num_left (most:Nat) (l:List UInt8) (e:Nat):(num most l e).2.1.length ≤ l.length:=num_len most l e
theorem text_left (r:RdN):(textL r).length ≤ r.2.1.length:=by unfold textL;split <;> simp
theorem rdF_left (l:List UInt8) (e:Nat):(rdF l e).2.1.length ≤ l.length:=by
 unfold rdF
 have h1:=num_left 4294967295 l e
 have h2:=num_left 16 (num 4294967295 l e).2.1 (num 4294967295 l e).2.2
 have h3:=text_left (num 16 (num 4294967295 l e).2.1 (num 4294967295 l e).2.2)
 have h4:=num_left 255 (textL (num 16 (num 4294967295 l e).2.1 (num 4294967295 l e).2.2)) (textE (num 16 (num 4294967295 l e).2.1 (num 4294967295 l e).2.2))
 have h5:=num_left 1 (num 255 (textL (num 16 (num 4294967295 l e).2.1 (num 4294967295 l e).2.2)) (textE (num 16 (num 4294967295 l e).2.1 (num 4294967295 l e).2.2))).2.1 (num 255 (textL (num 16 (num 4294967295 l e).2.1 (num 4294967295 l e).2.2)) (textE (num 16 (num 4294967295 l e).2.1 (num 4294967295 l e).2.2))).2.2
 exact Nat.le_trans h5 (Nat.le_trans h4 (Nat.le_trans h3 (Nat.le_trans h2 h1)))
theorem rdFs_left:∀ n l e acc,(rdFs n l e acc).2.1.length ≤ l.length:=by
 intro n
 induction n with
 | zero => intro l e acc;simp [rdFs]
 | succ n ih =>
   intro l e acc
   simp only [rdFs]
   split
   ·simp
   ·exact Nat.le_trans (ih _ _ _) (rdF_left l e)
theorem unp_bad {l:List UInt8} (h:(rdS l 0).err ≠ 0):uId l = 0 ∧ uFs l = [] ∧ uLeft l = []:=by
 unfold uId uFs uLeft
 rw [if_neg h,if_neg h,if_neg h]
 exact ⟨rfl,rfl,rfl⟩
theorem unp_ok {l lf:List UInt8} {id:UInt32} {fs:List Fd} (h:rdS l 0 = ⟨id,fs,lf,0⟩):uId l = id ∧ uFs l = fs ∧ uLeft l = lf:=by
 unfold uId uFs uLeft
 rw [h]
 exact ⟨rfl,rfl,rfl⟩
/-- what stands behind 'f.Name, r.b = string(r.b[:size]), r.b[size:]' -/
def TextDone (b bf:Nat) (wr:World) (fid:UInt32) (nm:ByteArray) (l7:List UInt8) (wx:World):Prop :=
 (∃ A c,RdrA wx b A c l7 0) ∧ Oth b wr wx ∧ BoxN wx bf [.int .u32 (fid.toNat:Int),.string nm,.int .u8 0,.bool false]
theorem TextDone.drew {b bf:Nat} {wr wx:World} {fid:UInt32} {nm:ByteArray} {l7:List UInt8} (h:TextDone b bf wr fid nm l7 wx):TextDone b bf wr fid nm l7 wx.drew:=by
 obtain ⟨⟨A,c,h1⟩,h2,h3⟩:=h
 exact ⟨⟨A,c,h1.keep (Below.refl _ wx).drew⟩,h2.drew,h3.keep (Below.refl _ wx).drew h3.z⟩
section
variable {w6 wr:World} {b bf c c2:Nat} {A A2:Option Addr} {l l2:List UInt8} {fid:UInt32} {s0 nm:ByteArray}
theorem td1 (rd6:RdrA w6 b A c l 0) (hr2:Rd w6 b 1 A2 l2.length c2 (bytesV l2)) (zb:b < bf) (zf:wr.heap.size ≤ bf) (ho:Oth b wr w6) (fb:BoxN w6 bf [.int .u32 (fid.toNat:Int),.string s0,.int .u8 0,.bool false]) :
 TextDone b bf wr fid nm l2 ((w6.setCell ⟨bf,1,none⟩ (.string nm)).setCell ⟨b,0,none⟩ (.slice A2 l2.length c2)) :=
 ⟨⟨A2,c2,(rd6.elsewhere (p:=⟨bf,1,none⟩) zb (.string nm)).set0 (hr2.below ((Below.refl b w6).setCell (p:=⟨bf,1,none⟩) (Nat.le_of_lt zb) _))⟩,(ho.setNew (p:=⟨bf,1,none⟩) zf (.string nm)).set 0 _,
  (fb.set (j:=1) (.string nm) rfl).else (p:=⟨b,0,none⟩) (Nat.ne_of_lt zb) _⟩
theorem td2 (rd6:RdrA w6 b A c l 0) (hr2:Rd w6 b 1 A2 l2.length c2 (bytesV l2)) (zb:b < bf) (zf:wr.heap.size ≤ bf) (ho:Oth b wr w6) (fb:BoxN w6 bf [.int .u32 (fid.toNat:Int),.string s0,.int .u8 0,.bool false]) :
 TextDone b bf wr fid nm l2 ((w6.setCell ⟨b,0,none⟩ (.slice A2 l2.length c2)).setCell ⟨bf,1,none⟩ (.string nm)) :=
 ⟨⟨A2,c2,(rd6.set0 hr2).elsewhere (p:=⟨bf,1,none⟩) zb (.string nm)⟩,(ho.set 0 _).setNew (p:=⟨bf,1,none⟩) zf (.string nm),
  (fb.else (p:=⟨b,0,none⟩) (Nat.ne_of_lt zb) _).set (j:=1) (.string nm) rfl⟩
end

/-- what Unpack tells is one's own -/
def UnpEndO (w:World) (l:List UInt8) (e:Ending) (w':World):Prop :=
 ∃ F fc A c,e = .returned (.tuple #[.agg #[.int .u32 ((uId l).toNat:Int),.slice F (uFs l).length fc],.slice A (uLeft l).length c,.int .i64 ((rdS l 0).err:Int)]) ∧
  w'.ownsRow w.heap.size 89 4 (.slice F (uFs l).length fc) (uFs l).length (fdsV (uFs l)) ∧ w'.ownsRow w.heap.size 5 1 (.slice A (uLeft l).length c) (uLeft l).length (bytesV (uLeft l)) ∧ Below w.heap.size w w'
set_option maxHeartbeats 4000000 in
theorem schUnpackO (w:World) (n c:Nat) (A:Option Addr) (l:List UInt8) (hr:Rd w w.heap.size 1 A n c (bytesV l)) (hmax:l.length ≤ 1000000) :
 Calls Tryz.prog 110 #[.slice A n c] w (UnpEndO w l):=by
 obtain rfl:n = l.length:=by have:=hr.len;rw [bytesV_length] at this;omega
 go_enter Tryz.func110,Tryz.ntmps110
 go_wp2_with fail
 have x0:=boxN_new w #[.int .u32 0,.slice none 0 0] 33
 have hra:=(hr.below ((Below.refl w.heap.size w).alloc (Nat.le_refl _) (.cells #[.int .u32 0,.slice none 0 0] 33))).more (show w.heap.size ≤ (w.alloc (.cells #[.int .u32 0,.slice none 0 0] 33)).heap.size by simp)
 have hza:(w.alloc (.cells #[.int .u32 0,.slice none 0 0] 33)).heap.size = w.heap.size + 1:=by simp
 have hba:=(Below.refl w.heap.size w).alloc (Nat.le_refl _) (.cells #[.int .u32 0,.slice none 0 0] 33)
 generalize w.alloc (.cells #[.int .u32 0,.slice none 0 0] 33) = wa at *
 rw [← hza]
 have h0:=rdr_new wa hra 249
 have hbb:=(Below.refl wa.heap.size wa).alloc (Nat.le_refl _) (.cells #[.slice A l.length c,.int .i64 0] 249)
 have x0':=x0.keep hbb x0.z
 have hob:Oth wa.heap.size w (wa.alloc (.cells #[.slice A l.length c,.int .i64 0] 249)):=(Oth.of hba).trans (.of hbb)
 generalize wa.alloc (.cells #[.slice A l.length c,.int .i64 0] 249) = wb at *
 obtain ⟨B0,hB0⟩:∃ B0,B0 = w.heap.size:=⟨_,rfl⟩
 obtain ⟨b,hb⟩:∃ b,b = wa.heap.size:=⟨_,rfl⟩
 rw [← hb] at h0 hob ⊢
 rw [← hB0] at x0' ⊢
 have hbr:B0 < b:=by omega
 have hB0':w.heap.size ≤ B0:=Nat.le_of_eq hB0.symm
 have hbw:w.heap.size ≤ b:=by omega
 clear hra hza hba hbb x0 hB0 hb hr
 refine (schNum wb b A c l 0 h0 4294967295 (by decide)).mono ?_
 rintro e w1 ⟨rfl,⟨A1,c1,h1⟩,ho1⟩
 have hle:=num_le 4294967295 l 0
 have hl1:=num_left 4294967295 l 0
 obtain ⟨r,hr⟩:∃ r,r = num 4294967295 l 0:=⟨_,rfl⟩
 rw [← hr] at h1 hle hl1 ⊢
 obtain ⟨n1,l1,e1⟩:=r
 dsimp only at h1 hle hl1 ⊢
 obtain ⟨id,rfl⟩:∃ id:UInt32,n1 = id.toNat:=⟨UInt32.ofNat n1,(ofNat32 (by omega)).symm⟩
 have HA:=hide hr
 have x1:=x0'.oth ho1 (by omega)
 have ho1':=hob.trans ho1
 have a32:(id.toNat:Int) % 4294967296 = (id.toNat:Int):=by omega
 have a32w:IntKind.u32.wrap (id.toNat:Int) = (id.toNat:Int):=by rw [IntKind.wrap_u32];omega
 have HL1:=hide hl1
 clear hr hob h0 x0' hl1
 go_wp2_with fail
 have xs:=boxN_new w1 #[.int .u32 (id.toNat:Int),.slice none 0 0] 33
 have hbA:=(Below.refl w1.heap.size w1).alloc (Nat.le_refl _) (.cells #[.int .u32 (id.toNat:Int),.slice none 0 0] 33)
 have h2:=h1.keep hbA
 have x2:=x1.keep hbA x1.z
 have ho2:=ho1'.alloc (.cells #[.int .u32 (id.toNat:Int),.slice none 0 0] 33)
 have o1:b < w1.heap.size:=h1.z
 have o2:B0 < w1.heap.size:=x1.z
 have o4:w.heap.size ≤ w1.heap.size:=Nat.le_trans hB0' (Nat.le_of_lt o2)
 generalize w1.alloc (.cells #[.int .u32 (id.toNat:Int),.slice none 0 0] 33) = w2 at *
 generalize w1.heap.size = bs at *
 have G2:GU w B0 b bs id A1 c1 l1 e1 none 0 [] w2:=⟨h2,xs,World.ownsRow_nil _ _ _ _,x2,ho2,o1,o2,by omega,o4⟩
 refine (schNum w2 b A1 c1 l1 e1 h2 8 (by decide)).mono ?_
 rintro e w3 ⟨rfl,⟨A2,c2,h3⟩,ho3⟩
 have hle2:=num_le 8 l1 e1
 have hl2:=num_left 8 l1 e1
 obtain ⟨r,hr⟩:∃ r,r = num 8 l1 e1:=⟨_,rfl⟩
 rw [← hr] at h3 hle2 hl2 ⊢
 obtain ⟨N,l2,e2⟩:=r
 dsimp only at h3 hle2 hl2 ⊢
 have G3:=G2.go h3 ho3
 have HN:=hide hr
 obtain ⟨Q,hQ⟩:∃ Q,rdFs N l2 e2 [] = Q:=⟨_,rfl⟩
 have HQ:=hide hQ
 have hql:=rdFs_left N l2 e2 []
 rw [hQ] at hql
 have HQL:Hid (Q.2.1.length ≤ 1000000):=hide (by have:=HL1.out;omega)
 clear hr hQ hql hl2 a32 a32w hbA G2 ho3 h3 h2 x2 ho2 xs ho1 ho1' h1 x1 hle HL1
 go_wp2_with fail
 go_loopw [7] (GUR w B0 b bs id Q) (fun iv _ => (intOf iv).toNat)
 case atStart => exact ⟨N,A2,c2,l2,e2,none,0,[],rfl,by simp;omega,HQ,G3⟩
 case round =>
  clear G3
  obtain ⟨m,A',c',l',e',fA,fc,fs,rfl,hlen,hrd,G⟩:=hrel
  by_cases he:e' = 0
  ·subst he
   have k1:wr.cell? ⟨b,1,none⟩ = some (.int .i64 0):=G.rd.c1
   by_cases hm:m = 0
   ·
    have hq:=rdFs_end (m:=m) (l:=l') (e:=0) (fs:=fs) (.inl hm)
    have hQ2:=hrd.out
    rw [hq] at hQ2
    have HQ2:=hide hQ2
    have HLL:Hid (l'.length ≤ 1000000):=hide (by have:=HQL.out;rw [← HQ2.out] at this;exact this)
    have t1:¬ 0 < m:=by omega
    have s0:=G.bx.cell 0 _ rfl
    have s1:=G.bx.cell 1 _ rfl
    clear hq hQ2 hm hlen
    go_wp2_with fail
    refine (schCheck wr id _ fc fA fs G.rdF).mono ?_
    rintro e w5 ⟨rfl,hb5⟩
    have G4:=G.call hb5
    have GX:=G4.why (check id fs)
    have HS:Hid (rdS l 0 = ⟨id,fs,l',check id fs⟩):=hide (by have:=rdS_of HA.out HN.out (HQ.out.trans HQ2.out.symm);simpa using this)
    have d1:=G4.rd.c1
    have d2:=G4.rd.f1
    have d0:=G4.rd.c0
    have v0:=G4.bx.cell 0 _ rfl
    have v1:=G4.bx.cell 1 _ rfl
    have r0:=G4.rb.cell 0 _ rfl
    have r1:=G4.rb.cell 1 _ rfl
    have rf0:=G4.rb.free 0 (by simp)
    have rf1:=G4.rb.free 1 (by simp)
    have n1:b ≠ bs:=by omega
    have n2:b ≠ B0:=by omega
    have n3:bs ≠ b:=by omega
    have n4:B0 ≠ b:=by omega
    have GX':=hide GX
    clear GX G4 G hb5 k1 s0 s1
    by_cases hck:check id fs = 0
    ·have t3:((check id fs:Int) != 0) = false:=by rw [hck];rfl
     have HS0:Hid (rdS l 0 = ⟨id,fs,l',0⟩):=hide (by rw [HS.out,hck])
     generalize check id fs = ck at *
     clear hck HS
     go_wp2_with fail
     have GX:=GX'.out
     have e0:=GX.rd.c0
     have e1:=GX.bx.cell 0 _ rfl
     have e2:=GX.bx.cell 1 _ rfl
     have e3:=GX.rb.cell 0 _ rfl
     have e4:=GX.rb.cell 1 _ rfl
     have e5:=GX.rb.free 0 (by simp)
     have e6:=GX.rb.free 1 (by simp)
     have hrd0:Rd (w5.setCell ⟨b,1,none⟩ (.int .i64 (ck:Int))) b 1 A' l'.length c' (bytesV l'):=GX.rd.rd
     have hzb:b ≤ (w5.setCell ⟨b,1,none⟩ (.int .i64 (ck:Int))).heap.size:=Nat.le_of_lt GX.rd.z
     have HRD:=hide (And.intro hrd0 hzb)
     clear d0 d1 d2 v0 v1 r0 r1 rf0 rf1 hrd0 hzb GX
     generalize w5.setCell ⟨b,1,none⟩ (.int .i64 (ck:Int)) = w6 at *
     have nb1:bs ≠ B0:=by omega
     go_region_held3 (fun w' => w'.cell? ⟨b,0,none⟩ = some (.slice A' l'.length c') ∧ w'.cell? ⟨bs,0,none⟩ = some (.int .u32 (id.toNat:Int)) ∧ w'.cell? ⟨bs,1,none⟩ = some (.slice fA fs.length fc)) (first | exact ⟨e0',e1',e2'⟩ | exact ⟨e0,e1,e2⟩ | exact ⟨set2_keep n2 e0' _ _,set2_keep nb1 e1' _ _,set2_keep nb1 e2' _ _⟩ | go_keep)
      (first | (go_at_call 107;refine (cloneB w6.drew b l'.length c' A' (bytesV l') HRD.out.1.drew (bytesV_one l') (by have:=HLL.out;omega) HRD.out.2).mono ?_;rintro e w7 ⟨v7,rfl,hown7,hb7⟩;have hb7':=below_of_drew hb7;have G7:=GX'.out.call hb7';have e0':=G7.rd.c0;have e1':=G7.bx.cell 0 _ rfl;have e2':=G7.bx.cell 1 _ rfl;have e3':=G7.rb.cell 0 _ rfl;have e4':=G7.rb.cell 1 _ rfl;have e5':=G7.rb.free 0 (by simp);have e6':=G7.rb.free 1 (by simp)))
     all_goals (try go_wp2_with fail)
     all_goals (try simp only [Exit.inBlock,Exit.then])
     all_goals
      have G7:=GX'.out.call hb7'
      obtain ⟨y1,_,y3,y4,y5⟩:=G7.fin (.int .u32 (id.toNat:Int)) (.slice fA fs.length fc)
      have hB6:B0 < w6.drew.heap.size:=Nat.lt_of_lt_of_le hbr HRD.out.2
      have ho:=ownsRow_setCell_below (ownsRow_setCell_below hown7 (a:=⟨B0,0,none⟩) hB6 (.int .u32 (id.toNat:Int))) (a:=⟨B0,1,none⟩) hB6 (.slice fA fs.length fc)
      obtain ⟨Ac,cc,q,hrc⟩:=Rd.of_own ho
      subst q
      refine bodyPost_ret (ret_sch3 (b:=B0) (x:=.int .u32 (id.toNat:Int)) (y:=.slice fA fs.length fc) rfl _ _ rfl y4 y5) rfl ?_
      obtain ⟨q1,q2,q3⟩:=unp_ok HS0.out
      refine ⟨fA,fc,Ac,cc,?_,?_,?_,(y3 hB0').belowB hbw (Nat.le_refl _)⟩
      ·rw [q1,q2,q3,HS0.out];rfl
      ·rw [q2];exact own_base (ownsRow_setCell_below (ownsRow_setCell_below G7.own (a:=⟨B0,0,none⟩) (Nat.lt_succ_of_lt G7.o2) _) (a:=⟨B0,1,none⟩) (Nat.lt_succ_of_lt G7.o2) _) (Nat.le_succ_of_le G7.o4)
      ·rw [q3];exact own_base ho (Nat.le_trans hB0' (Nat.le_of_lt hB6))
    ·have t3:((check id fs:Int) != 0) = true:=by rw [bne_iff_ne];omega
     have HS0:Hid ((rdS l 0).err = check id fs ∧ (rdS l 0).err ≠ 0):=hide (by rw [HS.out];exact ⟨rfl,hck⟩)
     generalize check id fs = ck at *
     clear hck HS
     go_wp2_with fail
     have GX:=GX'.out
     have e0:=GX.rd.c1
     have e3:=GX.rb.cell 0 _ rfl
     have e4:=GX.rb.cell 1 _ rfl
     have e5:=GX.rb.free 0 (by simp)
     have e6:=GX.rb.free 1 (by simp)
     have n1':b ≠ B0:=by omega
     have n2':B0 ≠ b:=by omega
     clear GX
     clear d0 d1 d2 v0 v1 r0 r1 rf0 rf1
     generalize w5.setCell ⟨b,1,none⟩ (.int .i64 (ck:Int)) = w6 at *
     go_region_held3 (fun w' => w'.cell? ⟨b,1,none⟩ = some (.int .i64 (ck:Int))) (first | exact e0 | exact set2_keep n1' e0 _ _ | go_keep) (fail)
     all_goals (try go_wp2_with fail)
     all_goals (try simp only [Exit.inBlock,Exit.then])
     all_goals
      obtain ⟨y1,_,y3,y4,y5⟩:=(GX'.out.call ((Below.refl _ w6).drew)).fin (.int .u32 0) (.slice none 0 0)
      refine bodyPost_ret (ret_sch3 (b:=B0) (x:=.int .u32 0) (y:=.slice none 0 0) rfl _ _ rfl y4 y5) rfl ?_
      obtain ⟨q1,q2,q3⟩:=unp_bad HS0.out.2
      refine ⟨none,0,none,0,?_,?_,?_,(y3 hB0').belowB hbw (Nat.le_refl _)⟩
      ·rw [q1,q2,q3,HS0.out.1];rfl
      ·rw [q2];exact World.ownsRow_nil _ _ _ _
      ·rw [q3];exact World.ownsRow_nil _ _ _ _
   ·
    have hq:=hrd.out
    have hm0:0 < m:=Nat.pos_of_ne_zero hm
    rw [show m = (m - 1) + 1 by omega,rdFs_on] at hq
    have HQ2:=hide hq
    have t1:decide ((0:Int) < (m:Int)) = true:=decide_eq_true (by omega)
    have HM:=hide hm0
    clear hq hm hrd hm0
    go_wp2_with fail
    refine (schNum wr b A' c' l' 0 G.rd 4294967295 (by decide)).mono ?_
    rintro e w4 ⟨rfl,⟨A4,c4,rd4⟩,ho4⟩
    have hle:=num_le 4294967295 l' 0
    obtain ⟨r,hr⟩:∃ r,num 4294967295 l' 0 = r:=⟨_,rfl⟩
    rw [hr] at rd4 hle ⊢
    obtain ⟨a,l4,e4⟩:=r
    dsimp only at rd4 hle ⊢
    obtain ⟨fid,rfl⟩:∃ id:UInt32,a = id.toNat:=⟨UInt32.ofNat a,(ofNat32 (by omega)).symm⟩
    have HF1:=hide hr
    have a32:(fid.toNat:Int) % 4294967296 = (fid.toNat:Int):=by omega
    have a32w:IntKind.u32.wrap (fid.toNat:Int) = (fid.toNat:Int):=by rw [IntKind.wrap_u32];omega
    clear hr hle k1
    go_wp2_with fail
    have fb5:=boxN_new w4 #[.int .u32 (fid.toNat:Int),.string ⟨#[]⟩,.int .u8 0,.bool false] 89
    have hbf:=(Below.refl w4.heap.size w4).alloc (Nat.le_refl _) (.cells #[.int .u32 (fid.toNat:Int),.string ⟨#[]⟩,.int .u8 0,.bool false] 89)
    have rd5:=rd4.keep hbf
    have ho5:=ho4.alloc (.cells #[.int .u32 (fid.toNat:Int),.string ⟨#[]⟩,.int .u8 0,.bool false] 89)
    have zf:wr.heap.size ≤ w4.heap.size:=ho4.size
    have zb:b < w4.heap.size:=rd4.z
    clear a32 a32w hbf rd4 ho4
    generalize w4.alloc (.cells #[.int .u32 (fid.toNat:Int),.string ⟨#[]⟩,.int .u8 0,.bool false] 89) = w5 at *
    generalize w4.heap.size = bf at *
    simp only [] at fb5
    refine (schNum w5 b A4 c4 l4 e4 rd5 16 (by decide)).mono ?_
    rintro e w6 ⟨rfl,⟨A6,c6,rd6⟩,ho6⟩
    have hle:=num_le 16 l4 e4
    obtain ⟨r,hr⟩:∃ r,num 16 l4 e4 = r:=⟨_,rfl⟩
    rw [hr] at rd6 hle ⊢
    have HF2:=hide hr
    have fb6:=fb5.oth ho6 (by omega)
    have ho6':=ho5.trans ho6
    clear hr ho5 ho6 rd5 fb5
    obtain ⟨sz,l6,e6⟩:=r
    dsimp only at rd6 hle ⊢
    have hcap:l6.length < 9223372036854775808:=by have:=rd6.rd.le;have:=rd6.rd.cap;unfold maxLen at *;omega
    have k0:=rd6.c0
    have f0:=rd6.f0
    have f1:=rd6.f1
    have nbf:b ≠ bf:=Nat.ne_of_lt zb
    have nbf':bf ≠ b:=fun q => nbf q.symm
    by_cases he6:e6 = 0
    ·subst he6
     by_cases hl:l6.length < sz
     ·
      have k1:w6.cell? ⟨b,1,none⟩ = some (.int .i64 0):=rd6.c1
      obtain ⟨q1,q2,q3⟩:=text_30 (r:=(sz,l6,0)) rfl hl
      have HNM:=hide (And.intro q2 (And.intro q3 q1))
      have rd7:=rd6.set1 30
      have ho7:=ho6'.set 1 (.int .i64 30)
      have fb7:=fb6.else (p:=⟨b,1,none⟩) nbf (.int .i64 30)
      obtain ⟨nm,hnm⟩:∃ nm:ByteArray,(⟨#[]⟩:ByteArray) = nm:=⟨_,rfl⟩
      clear q1 q2 q3 rd6 fb6 ho6'
      go_wp2_with fail
      have ho7:Oth b wr (w6.setCell ⟨b,1,none⟩ (.int .i64 30)):=ho7
      have rd7:RdrA (w6.setCell ⟨b,1,none⟩ (.int .i64 30)) b A6 c6 l6 30:=rd7
      clear k0 k1 f0 f1
      generalize w6.setCell ⟨b,1,none⟩ (.int .i64 30) = w7 at *
      have HNM':Hid (textS (sz,l6,0) = nm ∧ textL (sz,l6,0) = l6 ∧ textE (sz,l6,0) = 30):=hide (by rw [← hnm];exact HNM.out)
      have fb7':BoxN w7 bf [.int .u32 (fid.toNat:Int),.string nm,.int .u8 0,.bool false]:=by rw [← hnm];exact fb7
      clear hnm fb7 HNM
      refine (schNum w7 b A6 c6 l6 30 rd7 255 (by decide)).mono ?_
      rintro e w8 ⟨rfl,⟨A8,c8,rd8⟩,ho8⟩
      have hle:=num_le 255 l6 30
      obtain ⟨r2,hr⟩:∃ r2,num 255 l6 30 = r2:=⟨_,rfl⟩
      rw [hr] at rd8 hle ⊢
      obtain ⟨a,l8,e8⟩:=r2
      dsimp only at rd8 hle ⊢
      obtain ⟨kd,rfl⟩:∃ kd:UInt8,a = kd.toNat:=⟨UInt8.ofNat a,(ofNat8 (by omega)).symm⟩
      have HF3:=hide hr
      have a8:(kd.toNat:Int) % 256 = (kd.toNat:Int):=by omega
      have a8w:IntKind.u8.wrap (kd.toNat:Int) = (kd.toNat:Int):=by rw [IntKind.wrap_u8];omega
      have fb8:=fb7'.oth ho8 (by omega)
      have ho8':=ho7.trans ho8
      have u1:=fb8.cell 2 _ rfl
      have u2:=fb8.free 2 (by simp)
      clear hr hle ho7 ho8 rd7 fb7'
      go_wp2_with fail
      have rd9:=rd8.elsewhere (p:=⟨bf,2,none⟩) zb (.int .u8 (kd.toNat:Int))
      have ho9:=ho8'.setNew (p:=⟨bf,2,none⟩) zf (.int .u8 (kd.toNat:Int))
      have fb9:=fb8.set (j:=2) (.int .u8 (kd.toNat:Int)) rfl
      clear u1 u2 rd8 ho8' fb8 a8 a8w
      generalize w8.setCell ⟨bf,2,none⟩ (.int .u8 (kd.toNat:Int)) = w9 at *
      simp only [zC0,zB0] at fb9
      refine (schNum w9 b A8 c8 l8 e8 rd9 1 (by decide)).mono ?_
      rintro e wA ⟨rfl,⟨AA,cA,rdA⟩,hoA⟩
      obtain ⟨r2,hr⟩:∃ r2,num 1 l8 e8 = r2:=⟨_,rfl⟩
      rw [hr] at rdA ⊢
      obtain ⟨q,lA,eA⟩:=r2
      dsimp only at rdA ⊢
      have HF4:=hide hr
      obtain ⟨qb,hqb⟩:∃ qb,qb = decide (q = 1):=⟨_,rfl⟩
      have hq1:((q:Int) == 1) = qb:=by rw [hqb,Bool.eq_iff_iff];simp;omega
      have HQB:=hide hqb
      have fbA:=fb9.oth hoA (by omega)
      have hoA':=ho9.trans hoA
      have u1:=fbA.cell 3 _ rfl
      have u2:=fbA.free 3 (by simp)
      have rdB:=rdA.elsewhere (p:=⟨bf,3,none⟩) zb (.bool qb)
      have hoB:=hoA'.setNew (p:=⟨bf,3,none⟩) zf (.bool qb)
      have GA:=G.go rdA hoA'
      have GB:=G.go rdB hoB
      have v1:=GA.bx.cell 1 _ rfl
      have x0:=fbA.cell 0 _ rfl
      have x1:=fbA.cell 1 _ rfl
      have x2:=fbA.cell 2 _ rfl
      have nbs:bs ≠ bf:=by have:=G.bx.z;omega
      have nbs':bf ≠ bs:=fun q => nbs q.symm
      obtain ⟨f,hf⟩:∃ f:Fd,f = ⟨fid,nm,kd,qb⟩:=⟨_,rfl⟩
      have hfv:(#[.int .u32 (fid.toNat:Int),.string nm,.int .u8 (kd.toNat:Int),.bool qb]:Array Value).toList = fdV f:=by rw [hf];rfl
      have hone:∀ u ∈ fdV f,u.oneCell' = true:=fun u hu => fdsV_one [f] u (by simpa [fdsV] using hu)
      have hlit:=GB.lit f (cs:=#[.int .u32 (fid.toNat:Int),.string nm,.int .u8 (kd.toNat:Int),.bool qb]) hfv rfl
      rw [show (wA.setCell ⟨bf,3,none⟩ (.bool qb)).heap.size = wA.heap.size by simp] at hlit
      have HLIT:=hide hlit
      have hRF:rdF l' 0 = (f,lA,eA):=by
       have:=rdF_of HF1.out HF2.out (e3:=e8) (l3:=l8) (kd:=kd) (by rw [HNM'.out.2.1,HNM'.out.2.2];exact HF3.out) HF4.out
       rw [this,hf,HQB.out,HNM'.out.1]
      have HQ3:Hid (rdFs (m - 1) lA eA (fs ++ [f]) = Q):=hide (by have:=HQ2.out;rw [hRF] at this;exact this)
      have hbz:bs + 1 ≤ wA.heap.size:=GA.bx.z
      have HGB:=hide GB
      have hw1:IntKind.u64.wrap ((m:Int) - 1) = (m:Int) - 1:=by have:=HM.out;rw [IntKind.wrap_u64];omega
      have hw2:((m:Int) - 1) % 18446744073709551616 = (m:Int) - 1:=by have:=HM.out;omega
      clear hr ho9 hoA rd9 fb9 hqb hlit hRF hfv hf GA GB G rdB hoB rdA hoA'
      go_wp2_with (at_builtin;refine wpList_app _ tyFields rfl (.tmp 85) (.tmp 87) rfl (bs + 1) _ _ _ rfl HLIT.out.1 _ _ 1 1 _ rfl HLIT.out.2 hone (by omega) (by simp;omega) ?_;intro v3 w8 hown8 hg8 _;obtain ⟨g,cap,rfl,cc1,ff1,G8⟩:=HGB.out.grown (f:=f) hown8 hg8;have HG8:=hide G8;clear hown8 hg8 G8)
      go_roundw
      case rel => exact ⟨m - 1,_,_,lA,eA,_,_,fs ++ [f],by have:=HM.out;congr 1;omega,by have:=HM.out;simp;omega,HQ3,HG8.out⟩
      case measure => have:=HM.out;simp [intOf];omega
     ·
      have k1:w6.cell? ⟨b,1,none⟩ = some (.int .i64 0):=rd6.c1
      obtain ⟨q1,q2,q3⟩:=text_0 (r:=(sz,l6,0)) rfl hl
      have hl':sz ≤ l6.length:=by omega
      obtain ⟨A7,l7,hl7,s1,s2,hr7⟩:=rd_lo rd6.rd hl'
      obtain ⟨s3,s4,hr8⟩:=rd_hi rd6.rd hl'
      have hcv:=fun W hW => run_str (P:=Tryz.prog) (A:=A6) (n:=sz) (c:=c6) (B:=b) (l:=l6.take sz) W Tryz.underlying55 Tryz.underlying5 Tryz.underlying9 hW
      have hcv1:=hcv w6 (by simpa [List.length_take,Nat.min_eq_left hl'] using hr8)
      have hcv2:=hcv w6.drew (by simpa [List.length_take,Nat.min_eq_left hl'] using hr8.drew)
      dsimp only at q2 q3
      rw [← hl7] at q3
      obtain ⟨nm,hnm⟩:∃ nm:ByteArray,nm = ⟨(l6.take sz).toArray⟩:=⟨_,rfl⟩
      rw [← hnm] at q2 hcv1 hcv2
      have HNM':Hid (textS (sz,l6,0) = nm ∧ textL (sz,l6,0) = l7 ∧ textE (sz,l6,0) = 0):=hide ⟨q2,q3,q1⟩
      have HR:=hide hr7
      have u1:=fb6.cell 1 _ rfl
      have u2:=fb6.free 1 (by simp)
      clear hcv q1 q2 q3 hl7 hr7 hr8 hnm
      go_wp2_with fail
      go_cut [] from 19 to 89 (fun wx => TextDone b bf wr fid nm l7 wx)
      case first =>
       go_region_with (fail)
       all_goals (try go_wp2_with fail)
       all_goals go_meet
       all_goals first | exact (td1 rd6 HR.out zb zf ho6' fb6).drew | exact td1 rd6 HR.out zb zf ho6' fb6 | exact td2 rd6 HR.out zb zf ho6' fb6 | exact (td2 rd6 HR.out zb zf ho6' fb6).drew
      case rest =>
       clear s1 s2 s3 s4 hcv1 hcv2 u1 u2 k0 k1 f0 f1 fb6 rd6 ho6' HR
       obtain ⟨⟨A7,c7,rd7⟩,ho7,fb7'⟩:=hcut
       go_wp2_with fail
       refine (schNum wc b A7 c7 l7 0 rd7 255 (by decide)).mono ?_
       rintro e w8 ⟨rfl,⟨A8,c8,rd8⟩,ho8⟩
       have hle:=num_le 255 l7 0
       obtain ⟨r2,hr⟩:∃ r2,num 255 l7 0 = r2:=⟨_,rfl⟩
       rw [hr] at rd8 hle ⊢
       obtain ⟨a,l8,e8⟩:=r2
       dsimp only at rd8 hle ⊢
       obtain ⟨kd,rfl⟩:∃ kd:UInt8,a = kd.toNat:=⟨UInt8.ofNat a,(ofNat8 (by omega)).symm⟩
       have HF3:=hide hr
       have a8:(kd.toNat:Int) % 256 = (kd.toNat:Int):=by omega
       have a8w:IntKind.u8.wrap (kd.toNat:Int) = (kd.toNat:Int):=by rw [IntKind.wrap_u8];omega
       have fb8:=fb7'.oth ho8 (by omega)
       have ho8':=ho7.trans ho8
       have u1:=fb8.cell 2 _ rfl
       have u2:=fb8.free 2 (by simp)
       clear hr hle ho7 ho8 rd7 fb7'
       go_wp2_with fail
       have rd9:=rd8.elsewhere (p:=⟨bf,2,none⟩) zb (.int .u8 (kd.toNat:Int))
       have ho9:=ho8'.setNew (p:=⟨bf,2,none⟩) zf (.int .u8 (kd.toNat:Int))
       have fb9:=fb8.set (j:=2) (.int .u8 (kd.toNat:Int)) rfl
       clear u1 u2 rd8 ho8' fb8 a8 a8w
       generalize w8.setCell ⟨bf,2,none⟩ (.int .u8 (kd.toNat:Int)) = w9 at *
       simp only [zC0,zB0] at fb9
       refine (schNum w9 b A8 c8 l8 e8 rd9 1 (by decide)).mono ?_
       rintro e wA ⟨rfl,⟨AA,cA,rdA⟩,hoA⟩
       obtain ⟨r2,hr⟩:∃ r2,num 1 l8 e8 = r2:=⟨_,rfl⟩
       rw [hr] at rdA ⊢
       obtain ⟨q,lA,eA⟩:=r2
       dsimp only at rdA ⊢
       have HF4:=hide hr
       obtain ⟨qb,hqb⟩:∃ qb,qb = decide (q = 1):=⟨_,rfl⟩
       have hq1:((q:Int) == 1) = qb:=by rw [hqb,Bool.eq_iff_iff];simp;omega
       have HQB:=hide hqb
       have fbA:=fb9.oth hoA (by omega)
       have hoA':=ho9.trans hoA
       have u1:=fbA.cell 3 _ rfl
       have u2:=fbA.free 3 (by simp)
       have rdB:=rdA.elsewhere (p:=⟨bf,3,none⟩) zb (.bool qb)
       have hoB:=hoA'.setNew (p:=⟨bf,3,none⟩) zf (.bool qb)
       have GA:=G.go rdA hoA'
       have GB:=G.go rdB hoB
       have v1:=GA.bx.cell 1 _ rfl
       have x0:=fbA.cell 0 _ rfl
       have x1:=fbA.cell 1 _ rfl
       have x2:=fbA.cell 2 _ rfl
       have nbs:bs ≠ bf:=by have:=G.bx.z;omega
       have nbs':bf ≠ bs:=fun q => nbs q.symm
       obtain ⟨f,hf⟩:∃ f:Fd,f = ⟨fid,nm,kd,qb⟩:=⟨_,rfl⟩
       have hfv:(#[.int .u32 (fid.toNat:Int),.string nm,.int .u8 (kd.toNat:Int),.bool qb]:Array Value).toList = fdV f:=by rw [hf];rfl
       have hone:∀ u ∈ fdV f,u.oneCell' = true:=fun u hu => fdsV_one [f] u (by simpa [fdsV] using hu)
       have hlit:=GB.lit f (cs:=#[.int .u32 (fid.toNat:Int),.string nm,.int .u8 (kd.toNat:Int),.bool qb]) hfv rfl
       rw [show (wA.setCell ⟨bf,3,none⟩ (.bool qb)).heap.size = wA.heap.size by simp] at hlit
       have HLIT:=hide hlit
       have hRF:rdF l' 0 = (f,lA,eA):=by
        have:=rdF_of HF1.out HF2.out (e3:=e8) (l3:=l8) (kd:=kd) (by rw [HNM'.out.2.1,HNM'.out.2.2];exact HF3.out) HF4.out
        rw [this,hf,HQB.out,HNM'.out.1]
       have HQ3:Hid (rdFs (m - 1) lA eA (fs ++ [f]) = Q):=hide (by have:=HQ2.out;rw [hRF] at this;exact this)
       have hbz:bs + 1 ≤ wA.heap.size:=GA.bx.z
       have HGB:=hide GB
       have hw1:IntKind.u64.wrap ((m:Int) - 1) = (m:Int) - 1:=by have:=HM.out;rw [IntKind.wrap_u64];omega
       have hw2:((m:Int) - 1) % 18446744073709551616 = (m:Int) - 1:=by have:=HM.out;omega
       clear hr ho9 hoA rd9 fb9 hqb hlit hRF hfv hf GA GB G rdB hoB rdA hoA'
       go_wp2_with (at_builtin;refine wpList_app _ tyFields rfl (.tmp 85) (.tmp 87) rfl (bs + 1) _ _ _ rfl HLIT.out.1 _ _ 1 1 _ rfl HLIT.out.2 hone (by omega) (by simp;omega) ?_;intro v3 w8 hown8 hg8 _;obtain ⟨g,cap,rfl,cc1,ff1,G8⟩:=HGB.out.grown (f:=f) hown8 hg8;have HG8:=hide G8;clear hown8 hg8 G8)
       go_roundw
       case rel => exact ⟨m - 1,_,_,lA,eA,_,_,fs ++ [f],by have:=HM.out;congr 1;omega,by have:=HM.out;simp;omega,HQ3,HG8.out⟩
       case measure => have:=HM.out;simp [intOf];omega
    ·
     have k1:=rd6.c1
     obtain ⟨q1,q2,q3⟩:=text_e (r:=(sz,l6,e6)) he6
     have t2:((e6:Int) == 0) = false:=by rw [beq_eq_false_iff_ne];omega
     have rd7:=rd6
     have ho7:=ho6'
     have HNM':Hid (textS (sz,l6,e6) = ⟨#[]⟩ ∧ textL (sz,l6,e6) = l6 ∧ textE (sz,l6,e6) = e6):=hide ⟨q2,q3,q1⟩
     have fb7':=fb6
     clear q1 q2 q3 rd6 fb6 ho6' he6
     go_wp2_with fail
     clear k0 k1 f0 f1
     refine (schNum w6 b A6 c6 l6 e6 rd7 255 (by decide)).mono ?_
     rintro e w8 ⟨rfl,⟨A8,c8,rd8⟩,ho8⟩
     have hle:=num_le 255 l6 e6
     obtain ⟨r2,hr⟩:∃ r2,num 255 l6 e6 = r2:=⟨_,rfl⟩
     rw [hr] at rd8 hle ⊢
     obtain ⟨a,l8,e8⟩:=r2
     dsimp only at rd8 hle ⊢
     obtain ⟨kd,rfl⟩:∃ kd:UInt8,a = kd.toNat:=⟨UInt8.ofNat a,(ofNat8 (by omega)).symm⟩
     have HF3:=hide hr
     have a8:(kd.toNat:Int) % 256 = (kd.toNat:Int):=by omega
     have a8w:IntKind.u8.wrap (kd.toNat:Int) = (kd.toNat:Int):=by rw [IntKind.wrap_u8];omega
     have fb8:=fb7'.oth ho8 (by omega)
     have ho8':=ho7.trans ho8
     have u1:=fb8.cell 2 _ rfl
     have u2:=fb8.free 2 (by simp)
     clear hr hle ho7 ho8 rd7 fb7'
     go_wp2_with fail
     have rd9:=rd8.elsewhere (p:=⟨bf,2,none⟩) zb (.int .u8 (kd.toNat:Int))
     have ho9:=ho8'.setNew (p:=⟨bf,2,none⟩) zf (.int .u8 (kd.toNat:Int))
     have fb9:=fb8.set (j:=2) (.int .u8 (kd.toNat:Int)) rfl
     clear u1 u2 rd8 ho8' fb8 a8 a8w
     generalize w8.setCell ⟨bf,2,none⟩ (.int .u8 (kd.toNat:Int)) = w9 at *
     simp only [zC0,zB0] at fb9
     refine (schNum w9 b A8 c8 l8 e8 rd9 1 (by decide)).mono ?_
     rintro e wA ⟨rfl,⟨AA,cA,rdA⟩,hoA⟩
     obtain ⟨r2,hr⟩:∃ r2,num 1 l8 e8 = r2:=⟨_,rfl⟩
     rw [hr] at rdA ⊢
     obtain ⟨q,lA,eA⟩:=r2
     dsimp only at rdA ⊢
     have HF4:=hide hr
     obtain ⟨qb,hqb⟩:∃ qb,qb = decide (q = 1):=⟨_,rfl⟩
     have hq1:((q:Int) == 1) = qb:=by rw [hqb,Bool.eq_iff_iff];simp;omega
     have HQB:=hide hqb
     have fbA:=fb9.oth hoA (by omega)
     have hoA':=ho9.trans hoA
     have u1:=fbA.cell 3 _ rfl
     have u2:=fbA.free 3 (by simp)
     have rdB:=rdA.elsewhere (p:=⟨bf,3,none⟩) zb (.bool qb)
     have hoB:=hoA'.setNew (p:=⟨bf,3,none⟩) zf (.bool qb)
     have GA:=G.go rdA hoA'
     have GB:=G.go rdB hoB
     have v1:=GA.bx.cell 1 _ rfl
     have x0:=fbA.cell 0 _ rfl
     have x1:=fbA.cell 1 _ rfl
     have x2:=fbA.cell 2 _ rfl
     have nbs:bs ≠ bf:=by have:=G.bx.z;omega
     have nbs':bf ≠ bs:=fun q => nbs q.symm
     obtain ⟨f,hf⟩:∃ f:Fd,f = ⟨fid,⟨#[]⟩,kd,qb⟩:=⟨_,rfl⟩
     have hfv:(#[.int .u32 (fid.toNat:Int),.string ⟨#[]⟩,.int .u8 (kd.toNat:Int),.bool qb]:Array Value).toList = fdV f:=by rw [hf];rfl
     have hone:∀ u ∈ fdV f,u.oneCell' = true:=fun u hu => fdsV_one [f] u (by simpa [fdsV] using hu)
     have hlit:=GB.lit f (cs:=#[.int .u32 (fid.toNat:Int),.string ⟨#[]⟩,.int .u8 (kd.toNat:Int),.bool qb]) hfv rfl
     rw [show (wA.setCell ⟨bf,3,none⟩ (.bool qb)).heap.size = wA.heap.size by simp] at hlit
     have HLIT:=hide hlit
     have hRF:rdF l' 0 = (f,lA,eA):=by
      have:=rdF_of HF1.out HF2.out (e3:=e8) (l3:=l8) (kd:=kd) (by rw [HNM'.out.2.1,HNM'.out.2.2];exact HF3.out) HF4.out
      rw [this,hf,HQB.out,HNM'.out.1]
     have HQ3:Hid (rdFs (m - 1) lA eA (fs ++ [f]) = Q):=hide (by have:=HQ2.out;rw [hRF] at this;exact this)
     have hbz:bs + 1 ≤ wA.heap.size:=GA.bx.z
     have HGB:=hide GB
     have hw1:IntKind.u64.wrap ((m:Int) - 1) = (m:Int) - 1:=by have:=HM.out;rw [IntKind.wrap_u64];omega
     have hw2:((m:Int) - 1) % 18446744073709551616 = (m:Int) - 1:=by have:=HM.out;omega
     clear hr ho9 hoA rd9 fb9 hqb hlit hRF hfv hf GA GB G rdB hoB rdA hoA'
     go_wp2_with (at_builtin;refine wpList_app _ tyFields rfl (.tmp 85) (.tmp 87) rfl (bs + 1) _ _ _ rfl HLIT.out.1 _ _ 1 1 _ rfl HLIT.out.2 hone (by omega) (by simp;omega) ?_;intro v3 w8 hown8 hg8 _;obtain ⟨g,cap,rfl,cc1,ff1,G8⟩:=HGB.out.grown (f:=f) hown8 hg8;have HG8:=hide G8;clear hown8 hg8 G8)
     go_roundw
     case rel => exact ⟨m - 1,_,_,lA,eA,_,_,fs ++ [f],by have:=HM.out;congr 1;omega,by have:=HM.out;simp;omega,HQ3,HG8.out⟩
     case measure => have:=HM.out;simp [intOf];omega
  ·
   have hq:=rdFs_end (m:=m) (l:=l') (e:=e') (fs:=fs) (.inr he)
   have hQ2:=hrd.out
   rw [hq] at hQ2
   have HQ2:=hide hQ2
   have HS0:Hid ((rdS l 0).err = e' ∧ (rdS l 0).err ≠ 0):=hide (by have:=rdS_of HA.out HN.out (HQ.out.trans HQ2.out.symm);rw [if_neg he] at this;rw [this];exact ⟨rfl,he⟩)
   have t2:((e':Int) == 0) = false:=by rw [beq_eq_false_iff_ne];omega
   have t3:((e':Int) != 0) = true:=by rw [bne_iff_ne];omega
   have k1:=G.rd.c1
   have GX':=hide G
   generalize e' = ck at *
   rcases Nat.eq_zero_or_pos m with t1 | t1
   ·have t4:¬ 0 < m:=by omega
    have HT:=hide t1
    clear G hq hQ2 he t1
    go_wp2_with fail
    have GX:=GX'.out
    have e0:=GX.rd.c1
    have e3:=GX.rb.cell 0 _ rfl
    have e4:=GX.rb.cell 1 _ rfl
    have e5:=GX.rb.free 0 (by simp)
    have e6:=GX.rb.free 1 (by simp)
    have n1':b ≠ B0:=by omega
    have n2':B0 ≠ b:=by omega
    clear GX
    clear k1
    generalize wr = w6 at *
    go_region_held3 (fun w' => w'.cell? ⟨b,1,none⟩ = some (.int .i64 (ck:Int))) (first | exact e0 | exact set2_keep n1' e0 _ _ | go_keep) (fail)
    all_goals (try go_wp2_with fail)
    all_goals (try simp only [Exit.inBlock,Exit.then])
    all_goals
     obtain ⟨y1,_,y3,y4,y5⟩:=(GX'.out.call ((Below.refl _ w6).drew)).fin (.int .u32 0) (.slice none 0 0)
     refine bodyPost_ret (ret_sch3 (b:=B0) (x:=.int .u32 0) (y:=.slice none 0 0) rfl _ _ rfl y4 y5) rfl ?_
     obtain ⟨q1,q2,q3⟩:=unp_bad HS0.out.2
     refine ⟨none,0,none,0,?_,?_,?_,(y3 hB0').belowB hbw (Nat.le_refl _)⟩
     ·rw [q1,q2,q3,HS0.out.1];rfl
     ·rw [q2];exact World.ownsRow_nil _ _ _ _
     ·rw [q3];exact World.ownsRow_nil _ _ _ _
   ·have t4:decide ((0:Int) < (m:Int)) = true:=decide_eq_true (by omega)
    clear G hq hQ2 he
    go_wp2_with fail
    have GX:=GX'.out
    have e0:=GX.rd.c1
    have e3:=GX.rb.cell 0 _ rfl
    have e4:=GX.rb.cell 1 _ rfl
    have e5:=GX.rb.free 0 (by simp)
    have e6:=GX.rb.free 1 (by simp)
    have n1':b ≠ B0:=by omega
    have n2':B0 ≠ b:=by omega
    clear GX
    clear k1
    generalize wr = w6 at *
    go_region_held3 (fun w' => w'.cell? ⟨b,1,none⟩ = some (.int .i64 (ck:Int))) (first | exact e0 | exact set2_keep n1' e0 _ _ | go_keep) (fail)
    all_goals (try go_wp2_with fail)
    all_goals (try simp only [Exit.inBlock,Exit.then])
    all_goals
     obtain ⟨y1,_,y3,y4,y5⟩:=(GX'.out.call ((Below.refl _ w6).drew)).fin (.int .u32 0) (.slice none 0 0)
     refine bodyPost_ret (ret_sch3 (b:=B0) (x:=.int .u32 0) (y:=.slice none 0 0) rfl _ _ rfl y4 y5) rfl ?_
     obtain ⟨q1,q2,q3⟩:=unp_bad HS0.out.2
     refine ⟨none,0,none,0,?_,?_,?_,(y3 hB0').belowB hbw (Nat.le_refl _)⟩
     ·rw [q1,q2,q3,HS0.out.1];rfl
     ·rw [q2];exact World.ownsRow_nil _ _ _ _
     ·rw [q3];exact World.ownsRow_nil _ _ _ _
end
end

section
open Go.RowKit

/-! ### plain -/
abbrev MNum:=Nat × List UInt8 × Bool
def mnum (l:List UInt8) (bad:Bool):MNum:=if (Var.get l).2.2 ≠ 0 ∨ bad = true then (0,l,true) else ((Var.get l).1,l.drop (Var.get l).2.1,false)
theorem mnum_bad {l:List UInt8} {bad:Bool} (h:(Var.get l).2.2 ≠ 0 ∨ bad = true):mnum l bad = (0,l,true):=by unfold mnum;rw [if_pos h]
theorem mnum_ok {l:List UInt8} {bad:Bool} (h:¬ ((Var.get l).2.2 ≠ 0 ∨ bad = true)):mnum l bad = ((Var.get l).1,l.drop (Var.get l).2.1,false):=by unfold mnum;rw [if_neg h]
abbrev MTxt:=ByteArray × List UInt8 × Bool
def mtext (l:List UInt8) (bad:Bool):MTxt :=
 if (mnum l bad).2.2 = true ∨ (mnum l bad).2.1.length < (mnum l bad).1 then (ByteArray.empty,(mnum l bad).2.1,true)
 else (⟨((mnum l bad).2.1.take (mnum l bad).1).toArray⟩,(mnum l bad).2.1.drop (mnum l bad).1,false)
def mtexts:Nat → List UInt8 → Bool → List ByteArray → List ByteArray × List UInt8 × Bool
 | 0,l,bad,acc => (acc,l,bad)
 | n + 1,l,bad,acc => if bad = true then (acc,l,true) else mtexts n (mtext l false).2.1 ((mtext l false).2.2 || decide (8 < acc.length + 1)) (acc ++ [(mtext l false).1])
/-! ### bytes in certain blocks -/
structure RdP (w:World) (P:Nat → Prop) (A:Option Addr) (n c:Nat) (l:List UInt8):Prop where
 rd:Rd w w.heap.size 1 A n c (bytesV l)
 at_:0 < n → ∃ b off,A = some ⟨b,off,none⟩ ∧ P b
section
variable {w w':World} {P Q:Nat → Prop} {A:Option Addr} {n c:Nat} {l:List UInt8}
theorem RdP.keep (h:RdP w P A n c l) (hsz:w.heap.size ≤ w'.heap.size) (hk:∀ p:Addr,P p.block → p.block < w.heap.size → w'.cell? p = w.cell? p):RdP w' P A n c l :=
 ⟨⟨h.rd.len,h.rd.le,h.rd.cap,fun hn => by
  obtain ⟨b,off,e,hb,hc⟩:=h.rd.at_ hn
  obtain ⟨b2,off2,e2,hp⟩:=h.at_ hn
  rw [e] at e2
  injection e2 with e2
  injection e2 with e2 _
  subst e2
  exact ⟨b,off,e,Nat.lt_of_lt_of_le hb hsz,fun j u hu => (hk ⟨b,off + j,none⟩ hp hb).trans (hc j u hu)⟩⟩,h.at_⟩
theorem RdP.imp (h:RdP w P A n c l) (hi:∀ k,P k → k < w.heap.size → Q k):RdP w Q A n c l :=
 ⟨h.rd,fun hn => by
  obtain ⟨b,off,e,hb,hc⟩:=h.rd.at_ hn
  obtain ⟨b2,off2,e2,hp⟩:=h.at_ hn
  rw [e] at e2
  injection e2 with e2
  injection e2 with e2 _
  subst e2
  exact ⟨b,off,e,hi b hp hb⟩⟩
theorem RdP.of {B:Nat} (h:Rd w B 1 A n c (bytesV l)) (hB:B ≤ w.heap.size) (hi:∀ k,k < B → P k):RdP w P A n c l :=
 ⟨h.more hB,fun hn => by
  obtain ⟨b,off,e,hb,hc⟩:=h.at_ hn
  exact ⟨b,off,e,hi b hb⟩⟩
theorem RdP.own {base:Nat} (h:w.ownsRow base 5 1 (.slice A n c) n (bytesV l)) (hi:∀ k,base ≤ k → P k):RdP w P A n c l:=by
 obtain ⟨A',c',q,hr⟩:=Rd.of_own h
 injection q with q1 q2 q3
 subst q1 q3
 refine ⟨hr,fun hn => ?_⟩
 obtain ⟨g,cap,q,hb,_⟩:=h.form hn
 injection q with q1 _ _
 exact ⟨g,0,q1,hi g hb⟩
theorem RdP.lo (h:RdP w P A l.length c l) {lo:Nat} (hlo:lo ≤ l.length):∃ A2 l2,l2 = l.drop lo ∧
 (∀ k W,(Instr.sliceAt 55 (.slice A l.length c) (some (.int k (lo:Int))) none none).run Tryz.prog W = .ok (.slice A2 l2.length (c - lo)) W) ∧
 (∀ k W,(Instr.slice 55 (.slice A l.length c) (some (.int k (lo:Int))) none none).run Tryz.prog W = .ok (.slice A2 l2.length (c - lo)) W) ∧ RdP w P A2 l2.length (c - lo) l2:=by
 have hr:=h.rd
 refine ⟨(if c = lo then A else A.map (·.add (lo * 1))),l.drop lo,rfl,fun k W => ?_,fun k W => ?_,?_,?_⟩
 ·rw [List.length_drop];exact cut_lo tyBytes A l.length c k (lo:Int) lo rfl hlo hr.le W
 ·rw [List.length_drop];exact run_cut_lo tyBytes A l.length c k (lo:Int) lo rfl hlo hr.le W
 ·have:=hr.cut hlo (Nat.le_refl _)
  rw [List.length_drop]
  rw [List.take_of_length_le (by simp [bytesV])] at this
  simpa [bytesV,List.map_drop] using this
 ·intro hn
  rw [List.length_drop] at hn
  have hle:=hr.le
  obtain ⟨b,off,e,hp⟩:=h.at_ (by omega)
  refine ⟨b,off + lo * 1,?_,hp⟩
  rw [if_neg (by omega),e]
  simp [Addr.add_lit]
end
/-! ### the reader's box -/
structure RdrB (w:World) (b:Nat) (P:Nat → Prop) (A:Option Addr) (c:Nat) (l:List UInt8) (e:Bool):Prop where
 c0:w.cell? ⟨b,0,none⟩ = some (.slice A l.length c)
 c1:w.cell? ⟨b,1,none⟩ = some (.bool e)
 f0:w.frozen? ⟨b,0,none⟩ = false
 f1:w.frozen? ⟨b,1,none⟩ = false
 z:b < w.heap.size
 rd:RdP w P A l.length c l
 nP:¬ P b
section
variable {w w':World} {b c B:Nat} {P Q:Nat → Prop} {A:Option Addr} {l:List UInt8} {e:Bool}
theorem RdrB.keepB (h:RdrB w b P A c l e) (hb:Below B w w') (hz:b < B) (hP:∀ k,P k → k < w.heap.size → k < B):RdrB w' b P A c l e where
 c0:=(hb.cell (p:=⟨b,0,none⟩) hz).trans h.c0
 c1:=(hb.cell (p:=⟨b,1,none⟩) hz).trans h.c1
 f0:=(hb.frozen (p:=⟨b,0,none⟩) hz).trans h.f0
 f1:=(hb.frozen (p:=⟨b,1,none⟩) hz).trans h.f1
 z:=Nat.lt_of_lt_of_le h.z hb.size
 rd:=h.rd.keep hb.size fun _p hp hl => hb.cell (hP _ hp hl)
 nP:=h.nP
theorem RdrB.keep (h:RdrB w b P A c l e) (hb:Below w.heap.size w w'):RdrB w' b P A c l e:=h.keepB hb h.z fun _ _ hl => hl
theorem RdrB.drew (h:RdrB w b P A c l e):RdrB w.drew b P A c l e:=h.keep ((Below.refl _ w).drew)
theorem RdrB.imp (h:RdrB w b P A c l e) (hi:∀ k,P k → k < w.heap.size → Q k) (hn:¬ Q b):RdrB w b Q A c l e:=⟨h.c0,h.c1,h.f0,h.f1,h.z,h.rd.imp hi,hn⟩
theorem cell_else {p q:Addr} (hne:q.block ≠ p.block) (x:Value):(w.setCell p x).cell? q = w.cell? q ∧ (w.setCell p x).frozen? q = w.frozen? q:=by
 have hb:(w.setCell p x).heap[q.block]? = w.heap[q.block]?:=Below.heap_setCell _ _ _ _ hne
 exact ⟨World.cell?_of_block (w:=w) hb,World.frozen?_of_block (w:=w) hb⟩
theorem RdrB.elsewhere (h:RdrB w b P A c l e) {p:Addr} (hp:b ≠ p.block) (hP:¬ P p.block) (x:Value):RdrB (w.setCell p x) b P A c l e :=
 ⟨(cell_else (q:=⟨b,0,none⟩) hp x).1.trans h.c0,(cell_else (q:=⟨b,1,none⟩) hp x).1.trans h.c1,(cell_else (q:=⟨b,0,none⟩) hp x).2.trans h.f0,(cell_else (q:=⟨b,1,none⟩) hp x).2.trans h.f1,
  by simpa using h.z,h.rd.keep (by simp) fun q hq _ => (cell_else (p:=p) (q:=q) (fun r => hP (by rw [← r];exact hq)) x).1,h.nP⟩
theorem RdrB.set0 (h:RdrB w b P A c l e) {A2:Option Addr} {c2:Nat} {l2:List UInt8} (hr:RdP w P A2 l2.length c2 l2):RdrB (w.setCell ⟨b,0,none⟩ (.slice A2 l2.length c2)) b P A2 c2 l2 e:=by
 have c0:=h.c0
 have c1:=h.c1
 have f0:=h.f0
 have f1:=h.f1
 exact ⟨by go_simp,by go_simp,by go_simp,by go_simp,by simpa using h.z,hr.keep (by simp) fun q hq _ => (cell_else (p:=⟨b,0,none⟩) (q:=q) (fun r => h.nP (by have r2:q.block = b:=r;rw [← r2];exact hq)) _).1,h.nP⟩
theorem RdrB.set1 (h:RdrB w b P A c l e) (e2:Bool):RdrB (w.setCell ⟨b,1,none⟩ (.bool e2)) b P A c l e2:=by
 have c0:=h.c0
 have c1:=h.c1
 have f0:=h.f0
 have f1:=h.f1
 exact ⟨by go_simp,by go_simp,by go_simp,by go_simp,by simpa using h.z,h.rd.keep (by simp) fun q hq _ => (cell_else (p:=⟨b,1,none⟩) (q:=q) (fun r => h.nP (by have r2:q.block = b:=r;rw [← r2];exact hq)) _).1,h.nP⟩
end
theorem rdrB_new (w:World) {P:Nat → Prop} {c:Nat} {A:Option Addr} {l:List UInt8} (hr:Rd w w.heap.size 1 A l.length c (bytesV l)) (t:TypeId) (hP:∀ k,k < w.heap.size → P k) (hn:¬ P w.heap.size):RdrB (w.alloc (.cells #[.slice A l.length c,.bool false] t)) w.heap.size P A c l false:=by
 have x:=box_new w #[.slice A l.length c,.bool false] t
 exact ⟨x.cell 0 _ rfl,x.cell 1 _ rfl,x.free 0,x.free 1,by rw [x.size];omega,.of (hr.below x.below) (by simp) hP,hn⟩
def MNumEnd (w:World) (b:Nat) (P:Nat → Prop) (r:MNum) (e:Ending) (w':World):Prop :=
 e = .returned (.int .u64 (r.1:Int)) ∧ (∃ A c,RdrB w' b P A c r.2.1 r.2.2) ∧ Oth b w w'
theorem metaNum (w:World) (b:Nat) (P:Nat → Prop) (A:Option Addr) (c:Nat) (l:List UInt8) (bad:Bool) (h:RdrB w b P A c l bad) :
 Calls Tryz.prog 109 #[.pointer (some ⟨b,0,none⟩)] w (MNumEnd w b P (mnum l bad)):=by
 have c0:=h.c0
 have c1:=h.c1
 have f0:=h.f0
 have f1:=h.f1
 go_enter Tryz.func109,Tryz.ntmps109
 go_wp2_with fail
 refine (varGet w w.heap.size _ c A l h.rd.rd).mono ?_
 rintro e w1 ⟨rfl,rfl⟩
 by_cases hg:(Var.get l).2.2 = 0
 ·cases bad with
  | true =>
    have HN:=hide (mnum_bad (l:=l) (bad:=true) (.inr rfl))
    rw [hg]
    generalize (Var.get l).2.1 = g2 at *
    generalize (Var.get l).1 = g1 at *
    clear hg
    go_wp2_with fail
    go_ret
    exact ⟨by rw [HN.out];rfl,⟨A,c,by rw [HN.out];exact h.set1 true⟩,(Oth.refl b w).set 1 _⟩
  | false =>
    have HN:=hide (mnum_ok (l:=l) (bad:=false) (by simp [hg]))
    have hk:(Var.get l).2.1 ≤ l.length:=(Var.get_ok (l:=l) (n:=(Var.get l).1) (k:=(Var.get l).2.1) (by rw [← hg])).2.1
    obtain ⟨A2,l2,hl2,s1,s2,hr2⟩:=h.rd.lo hk
    rw [← hl2] at HN
    obtain ⟨g1,hg1⟩:∃ g,g = (Var.get l).1:=⟨_,rfl⟩
    rw [← hg1] at HN ⊢
    rw [hg]
    generalize (Var.get l).2.1 = g2 at *
    have HR:=hide hr2
    clear hg hg1 hl2 hk hr2
    go_wp2_with fail
    go_ret
    exact ⟨by rw [HN.out];rfl,⟨A2,c - g2,by rw [HN.out];exact h.set0 HR.out⟩,(Oth.refl b w).set 0 _⟩
 ·have HN:=hide (mnum_bad (l:=l) (bad:=bad) (.inl hg))
  obtain ⟨g3,hg3⟩:∃ g,g = (Var.get l).2.2:=⟨_,rfl⟩
  rw [← hg3] at hg ⊢
  generalize (Var.get l).2.1 = g2 at *
  generalize (Var.get l).1 = g1 at *
  have t2:((g3:Int) != 0) = true:=by rw [bne_iff_ne];omega
  clear hg hg3
  go_wp2_with fail
  go_ret
  exact ⟨by rw [HN.out];rfl,⟨A,c,by rw [HN.out];exact h.set1 true⟩,(Oth.refl b w).set 1 _⟩
def MTextEnd (w:World) (b:Nat) (P:Nat → Prop) (r:MTxt) (e:Ending) (w':World):Prop :=
 e = .returned (.string r.1) ∧ (∃ A c,RdrB w' b P A c r.2.1 r.2.2) ∧ Oth b w w'
theorem metaRText (w:World) (b:Nat) (P:Nat → Prop) (A:Option Addr) (c:Nat) (l:List UInt8) (bad:Bool) (h:RdrB w b P A c l bad) :
 Calls Tryz.prog 170 #[.pointer (some ⟨b,0,none⟩)] w (MTextEnd w b P (mtext l bad)):=by
 go_enter Tryz.func170,Tryz.ntmps170
 go_wp2_with fail
 refine (metaNum w b P A c l bad h).mono ?_
 rintro e w1 ⟨rfl,⟨A1,c1,h1⟩,ho⟩
 have HT:Hid (mtext l bad = if (mnum l bad).2.2 = true ∨ (mnum l bad).2.1.length < (mnum l bad).1 then (ByteArray.empty,(mnum l bad).2.1,true) else (⟨((mnum l bad).2.1.take (mnum l bad).1).toArray⟩,(mnum l bad).2.1.drop (mnum l bad).1,false)):=hide rfl
 obtain ⟨n,l1,b1,hm⟩:∃ n l1 b1,mnum l bad = (n,l1,b1):=⟨_,_,_,rfl⟩
 rw [hm] at h1 HT ⊢
 dsimp only at h1 HT ⊢
 have HM:=hide hm
 clear hm
 have d0:=h1.c0
 have d1:=h1.c1
 have f0:=h1.f0
 have f1:=h1.f1
 have hl1:l1.length ≤ 9223372036854775807:=by have h2:=h1.rd.rd.le;have h3:=h1.rd.rd.cap;unfold maxLen at h3;omega
 have e33:IntKind.u64.wrap (l1.length:Int) = (l1.length:Int):=by rw [IntKind.wrap_u64];omega
 have e34:(l1.length:Int) % 18446744073709551616 = (l1.length:Int):=by omega
 cases b1 with
 | true =>
   have HR:=hide (HT.out.trans (if_pos (.inl rfl)))
   clear hl1 e33 e34
   go_wp2_with fail
   go_ret
   exact ⟨by rw [HR.out];rfl,⟨A1,c1,by rw [HR.out];exact h1.set1 true⟩,ho.set 1 _⟩
 | false =>
   by_cases hn:l1.length < n
   ·have HR:=hide (HT.out.trans (if_pos (.inr hn)))
    clear hl1
    go_wp2_with fail
    go_ret
    exact ⟨by rw [HR.out];rfl,⟨A1,c1,by rw [HR.out];exact h1.set1 true⟩,ho.set 1 _⟩
   ·have HR:=hide (HT.out.trans (if_neg (by simp;omega)))
    obtain ⟨A2,l2,hl2,s1,s2,hr2⟩:=h1.rd.lo (lo:=n) (by omega)
    have hcap:=h1.rd.rd.le
    have u1:=fun k W => run_cut_hi (P:=Tryz.prog) tyBytes A1 l1.length c1 k (n:Int) n rfl (by omega) W
    have u2:=fun k W => cut_hi (P:=Tryz.prog) tyBytes A1 l1.length c1 k (n:Int) n rfl (by omega) W
    have hpre:Rd w1 w1.heap.size 1 A1 n c1 (bytesV (l1.take n)):=by
     have:=h1.rd.rd.pre (hi:=n) (by omega)
     simpa [bytesV,List.map_take] using this
    have hstr:=run_str (P:=Tryz.prog) w1 Tryz.underlying55 Tryz.underlying5 Tryz.underlying9 hpre
    have HL2:=hide hl2
    have HRD:=hide hr2
    clear hl2 hr2 hpre hl1
    go_wp2_with fail
    go_ret
    exact ⟨by rw [HR.out];rfl,⟨A2,c1 - n,by rw [HR.out];dsimp only;rw [← HL2.out];exact h1.set0 HRD.out⟩,ho.set 0 _⟩
end


/-! ### numbers are small -/
namespace Var
theorem val_lead:∀ l:List UInt8,lead l < l.length → val (l.take (lead l + 1)) < ((l.getD (lead l) 0).toNat + 1) * 128 ^ lead l
 | [],h => by simp [lead] at h
 | c :: r,h => by
   simp only [lead] at h ⊢
   by_cases hc:c.toNat < 128
   ·simp only [if_pos hc]
    simp only [Nat.zero_add,List.take_succ_cons,List.take_zero,val,List.getD_cons_zero,Nat.pow_zero]
    omega
   ·simp only [if_neg hc] at h ⊢
    have ih:=val_lead r (by simpa using h)
    have hg:(c :: r).getD (lead r + 1) 0 = r.getD (lead r) 0:=by simp
    have ev:val ((c :: r).take (lead r + 1 + 1)) = c.toNat % 128 + 128 * val (r.take (lead r + 1)):=by simp [val]
    rw [ev,hg,Nat.pow_succ, ← Nat.mul_assoc]
    generalize ((r.getD (lead r) 0).toNat + 1) * 128 ^ lead r = X at *
    omega
theorem get_lt (l:List UInt8):(get l).1 < 18446744073709551616:=by
 rw [get_eq]
 have hle:=lead_le l
 split
 ·decide
 split
 ·decide
 split
 ·decide
 ·rename_i h1 h2 h3
  have hv:=val_lead l (by omega)
  show val (l.take (lead l + 1)) < _
  by_cases h9:lead l = 9
  ·have hb:(l.getD (lead l) 0).toNat ≤ 1:=by
    apply Nat.le_of_not_lt
    intro q
    exact h3 (.inl ⟨h9,q⟩)
   rw [h9] at hv hb ⊢
   have:((l.getD 9 0).toNat + 1) * 128 ^ 9 ≤ 2 * 128 ^ 9:=Nat.mul_le_mul_right _ (by omega)
   have e:2 * 128 ^ 9 = 18446744073709551616:=by decide
   omega
  ·have hb:=(l.getD (lead l) 0).toNat_lt
   have hp:128 ^ lead l ≤ 128 ^ 8:=Nat.pow_le_pow_right (by decide) (by omega)
   have:((l.getD (lead l) 0).toNat + 1) * 128 ^ lead l ≤ 256 * 128 ^ 8:=Nat.mul_le_mul (by omega) hp
   have e:256 * 128 ^ 8 = 18446744073709551616:=by decide
   omega
end Var
theorem mnum_lt (l:List UInt8) (bad:Bool):(mnum l bad).1 < 18446744073709551616:=by
 unfold mnum
 split
 ·exact (by decide:0 < 18446744073709551616)
 ·exact Var.get_lt l
theorem mnum_len (l:List UInt8) (bad:Bool):(mnum l bad).2.1.length ≤ l.length:=by
 unfold mnum
 split
 ·exact Nat.le_refl _
 ·simp
theorem mtexts_end {n:Nat} {l:List UInt8} {bad:Bool} {acc:List ByteArray} (h:n = 0 ∨ bad = true):mtexts n l bad acc = (acc,l,bad):=by
 cases n with
 | zero => rfl
 | succ n =>
   have hb:bad = true:=by simpa using h
   rw [mtexts,if_pos hb,hb]
theorem mtexts_on (n:Nat) (l:List UInt8) (acc:List ByteArray):mtexts (n + 1) l false acc = mtexts n (mtext l false).2.1 ((mtext l false).2.2 || decide (8 < acc.length + 1)) (acc ++ [(mtext l false).1]):=by
 rw [mtexts,if_neg (by simp)]
/-! ### a snapshot -/
def mk7 (n1 n2 n3 n4 n5 n6:Nat) (ms:List ByteArray):Sn:=⟨UInt64.ofNat n1,UInt64.ofNat n2,UInt64.ofNat n3,UInt64.ofNat n4,UInt64.ofNat n5,UInt32.ofNat n6,ms⟩
abbrev MSn:=Sn × List UInt8 × Bool
def msnap (l:List UInt8) (bad:Bool):MSn :=
 let a:=mnum l bad
 let b:=mnum a.2.1 a.2.2
 let c:=mnum b.2.1 b.2.2
 let d:=mnum c.2.1 c.2.2
 let e:=mnum d.2.1 d.2.2
 let f:=mnum e.2.1 e.2.2
 let g:=mnum f.2.1 (f.2.2 || decide (4294967295 < f.1))
 let t:=mtexts g.1 g.2.1 g.2.2 []
 (mk7 a.1 b.1 c.1 d.1 e.1 f.1 t.1,t.2.1,t.2.2)
theorem msnap_of {l l1 l2 l3 l4 l5 l6 l7 l8:List UInt8} {bad b1 b2 b3 b4 b5 b6 b7 b8:Bool} {n1 n2 n3 n4 n5 n6 n7:Nat} {ms:List ByteArray} (h1:mnum l bad = (n1,l1,b1)) (h2:mnum l1 b1 = (n2,l2,b2)) (h3:mnum l2 b2 = (n3,l3,b3)) (h4:mnum l3 b3 = (n4,l4,b4)) (h5:mnum l4 b4 = (n5,l5,b5)) (h6:mnum l5 b5 = (n6,l6,b6)) (h7:mnum l6 (b6 || decide (4294967295 < n6)) = (n7,l7,b7)) (h8:mtexts n7 l7 b7 [] = (ms,l8,b8)) :
 msnap l bad = (mk7 n1 n2 n3 n4 n5 n6 ms,l8,b8):=by
 unfold msnap
 simp only [h1,h2,h3,h4,h5,h6,h7,h8]
/-! ### lists of schemas, of snapshots -/
def oS:Nat → List UInt8 → Bool → List Ps → List Ps × List UInt8 × Bool
 | 0,l,bad,acc => (acc,l,bad)
 | n + 1,l,bad,acc => if bad = true then (acc,l,true) else oS n (uLeft l) (decide ((rdS l 0).err ≠ 0) || decide (16 < acc.length + 1)) (acc ++ [(uId l,uFs l)])
theorem oS_end {n:Nat} {l:List UInt8} {bad:Bool} {acc:List Ps} (h:n = 0 ∨ bad = true):oS n l bad acc = (acc,l,bad):=by
 cases n with
 | zero => rfl
 | succ n =>
   have hb:bad = true:=by simpa using h
   rw [oS,if_pos hb,hb]
theorem oS_on (n:Nat) (l:List UInt8) (acc:List Ps):oS (n + 1) l false acc = oS n (uLeft l) (decide ((rdS l 0).err ≠ 0) || decide (16 < acc.length + 1)) (acc ++ [(uId l,uFs l)]):=by
 rw [oS,if_neg (by simp)]
def oN:Nat → List UInt8 → Bool → List Sn → List Sn × List UInt8 × Bool
 | 0,l,bad,acc => (acc,l,bad)
 | n + 1,l,bad,acc => if bad = true then (acc,l,true) else oN n (msnap l false).2.1 ((msnap l false).2.2 || decide (32 < acc.length + 1)) (acc ++ [(msnap l false).1])
theorem oN_end {n:Nat} {l:List UInt8} {bad:Bool} {acc:List Sn} (h:n = 0 ∨ bad = true):oN n l bad acc = (acc,l,bad):=by
 cases n with
 | zero => rfl
 | succ n =>
   have hb:bad = true:=by simpa using h
   rw [oN,if_pos hb,hb]
theorem oN_on (n:Nat) (l:List UInt8) (acc:List Sn):oN (n + 1) l false acc = oN n (msnap l false).2.1 ((msnap l false).2.2 || decide (32 < acc.length + 1)) (acc ++ [(msnap l false).1]):=by
 rw [oN,if_neg (by simp)]
abbrev MOp:=List Ps × List Sn × Bool
def opn (l:List UInt8):MOp :=
 let a:=mnum l false
 let s:=oS a.1 a.2.1 a.2.2 []
 let b:=mnum s.2.1 s.2.2
 let n:=oN b.1 b.2.1 b.2.2 []
 (s.1,n.1,n.2.2)
theorem opn_of {l l1 l2 l3 l4:List UInt8} {b1 b2 b3 b4:Bool} {n m:Nat} {ss:List Ps} {ns:List Sn} (h1:mnum l false = (n,l1,b1)) (h2:oS n l1 b1 [] = (ss,l2,b2)) (h3:mnum l2 b2 = (m,l3,b3)) (h4:oN m l3 b3 [] = (ns,l4,b4)):opn l = (ss,ns,b4):=by
 unfold opn
 simp only [h1,h2,h3,h4]
def curOf (ns:List Sn):Nat:=(wasN ns ns.length).id.toNat
theorem curOf_snoc (ns:List Sn) (p:Sn):curOf (ns ++ [p]) = p.id.toNat:=by
 unfold curOf
 rw [show (ns ++ [p]).length = ns.length + 1 by simp,wasN_succ]
 simp [List.getD]
/-! ### Open -/
def bodyOf (l:List UInt8):List UInt8:=(open_ l).getD []
def oErr (l:List UInt8):Nat :=
 if (open_ l).isSome = false then 101 else if (bodyOf l).length < 3 ∨ (bodyOf l).take 3 ≠ tf1 then 100
 else if (opn ((bodyOf l).drop 3)).2.2 = true ∨ rightP (opn ((bodyOf l).drop 3)).1 (opn ((bodyOf l).drop 3)).2.1 (curOf (opn ((bodyOf l).drop 3)).2.1) = false ∨ wrS (opn ((bodyOf l).drop 3)).1 (opn ((bodyOf l).drop 3)).2.1 ≠ l then 102 else 0
def OpEnd (w:World) (l:List UInt8):Ending → World → Prop :=
 if oErr l = 0 then StepEnd w 0 (opn ((bodyOf l).drop 3)).1 (opn ((bodyOf l).drop 3)).2.1 (curOf (opn ((bodyOf l).drop 3)).2.1) else StepEnd w (oErr l) [] [] 0
theorem opEnd_bad {w w':World} {l:List UInt8} {er:Nat} (h:oErr l = er) (h0:er ≠ 0) (hb:Below w.heap.size w w'):OpEnd w l (.returned (.tuple #[.agg #[.slice none 0 0,.slice none 0 0,.int .u64 0],.int .i64 (er:Int)])) w':=by
 unfold OpEnd
 rw [h,if_neg h0]
 exact step_bad w w' er hb
/-! ### what was written is read -/

section
open Go.RowKit

section
variable {w w':World} {b c B:Nat} {P:Nat → Prop} {A:Option Addr} {l:List UInt8} {e:Bool}
theorem RdrB.set7 {b2:Nat} {v0 v1 v2 v3 v4 v5 v6:Value} (h:RdrB w b P A c l e) (hb:b ≠ b2) (hP:¬ P b2):RdrB (set7 w b2 v0 v1 v2 v3 v4 v5 v6) b P A c l e :=
 ((((((h.elsewhere (p:=⟨b2,0,none⟩) hb hP _).elsewhere (p:=⟨b2,1,none⟩) hb hP _).elsewhere (p:=⟨b2,2,none⟩) hb hP _).elsewhere (p:=⟨b2,3,none⟩) hb hP _).elsewhere (p:=⟨b2,4,none⟩) hb hP _).elsewhere (p:=⟨b2,5,none⟩) hb hP _).elsewhere (p:=⟨b2,6,none⟩) hb hP _
theorem Oth.set7 {b2:Nat} {u:World} {v0 v1 v2 v3 v4 v5 v6:Value} (h:Oth b u w) (hb:u.heap.size ≤ b2):Oth b u (set7 w b2 v0 v1 v2 v3 v4 v5 v6) :=
 ((((((h.setNew (p:=⟨b2,0,none⟩) hb _).setNew (p:=⟨b2,1,none⟩) hb _).setNew (p:=⟨b2,2,none⟩) hb _).setNew (p:=⟨b2,3,none⟩) hb _).setNew (p:=⟨b2,4,none⟩) hb _).setNew (p:=⟨b2,5,none⟩) hb _).setNew (p:=⟨b2,6,none⟩) hb _
end
/-- within reader.snap -/
structure GS (w0:World) (B0 br bs:Nat) (P:Nat → Prop) (q:Sn) (A:Option Addr) (c:Nat) (l:List UInt8) (e:Bool) (fA:Option Addr) (fc:Nat) (ms:List ByteArray) (wr:World):Prop where
 rd:RdrB wr br P A c l e
 bx:BoxN wr bs [.int .u64 (q.id.toNat:Int),.int .u64 (q.par.toNat:Int),.int .u64 (q.seq.toNat:Int),.int .u64 (q.off.toNat:Int),.int .u64 (q.tim.toNat:Int),.int .u32 (q.sch.toNat:Int),.slice fA ms.length fc]
 own:wr.ownsRow (bs + 1) 9 1 (.slice fA ms.length fc) ms.length (strsV ms)
 rb:BoxN wr B0 [.int .u64 0,.int .u64 0,.int .u64 0,.int .u64 0,.int .u64 0,.int .u32 0,.slice none 0 0]
 oth:Oth br w0 wr
 o1:br < bs
 o2:B0 < bs
 o3:br < B0
 o4:w0.heap.size ≤ B0
 oP:∀ k,P k → k < B0
section
variable {w0 wr w7:World} {B0 br bs c fc:Nat} {P:Nat → Prop} {e:Bool} {q:Sn} {A fA:Option Addr} {l:List UInt8} {ms:List ByteArray}
theorem GS.go (h:GS w0 B0 br bs P q A c l e fA fc ms wr) {A2:Option Addr} {c2:Nat} {l2:List UInt8} {e2:Bool} (hr:RdrB w7 br P A2 c2 l2 e2) (ho:Oth br wr w7):GS w0 B0 br bs P q A2 c2 l2 e2 fA fc ms w7 :=
 ⟨hr,h.bx.oth ho (by have:=h.o1;omega),own_oth h.own ho (by have:=h.o1;omega),h.rb.oth ho (by have:=h.o3;omega),h.oth.trans ho,h.o1,h.o2,h.o3,h.o4,h.oP⟩
theorem GS.drew (h:GS w0 B0 br bs P q A c l e fA fc ms wr):GS w0 B0 br bs P q A c l e fA fc ms wr.drew:=h.go h.rd.drew (Oth.refl br wr).drew
theorem GS.why (h:GS w0 B0 br bs P q A c l e fA fc ms wr) (e2:Bool):GS w0 B0 br bs P q A c l e2 fA fc ms (wr.setCell ⟨br,1,none⟩ (.bool e2)):=h.go (h.rd.set1 e2) ((Oth.refl br wr).set 1 _)
theorem GS.lit (h:GS w0 B0 br bs P q A c l e fA fc ms wr) (s:ByteArray) :
 (wr.alloc (.cells #[.string s] 9)).ownsRow (bs + 1) 9 1 (.slice fA ms.length fc) ms.length (strsV ms) ∧ ∀ j u,([.string s]:List Value)[j]? = some u → (wr.alloc (.cells #[.string s] 9)).cell? ((⟨wr.heap.size,0,none⟩:Addr).add j) = some u:=by
 refine ⟨h.own.alloc _,fun j u hu => ?_⟩
 have:=(boxN_new wr #[.string s] 9).cell j u hu
 rw [Addr.add_lit,Nat.zero_add]
 exact this
theorem GS.grown (h:GS w0 B0 br bs P q A c l e fA fc ms wr) {s:ByteArray} {w8:World} {g cap:Nat} (hown:w8.ownsRow (bs + 1) 9 1 (.slice (some ⟨g,0,none⟩) (ms.length + 1) cap) (ms.length + 1) (strsV ms ++ [.string s]))
 (hg:(wr.alloc (.cells #[.string s] 9)).grownBy w8 (Value.slice fA ms.length fc).ownBlock) :
 w8.cell? ⟨bs,6,none⟩ = some (.slice fA ms.length fc) ∧ w8.frozen? ⟨bs,6,none⟩ = false ∧
  GS w0 B0 br bs P q A c l e (some ⟨g,0,none⟩) cap (ms ++ [s]) (w8.setCell ⟨bs,6,none⟩ (.slice (some ⟨g,0,none⟩) (ms.length + 1) cap)):=by
 have hz:=h.bx.z
 have h1:=h.o1
 have h2:=h.o2
 have hb:Below (bs + 1) wr w8:=below_app ((Below.refl (bs + 1) wr).alloc (by omega) (.cells #[.string s] 9)) (Nat.le_refl _) (h.own.alloc _) hg (by simp;omega)
 have bx:=h.bx.keep hb (Nat.lt_succ_self bs)
 have e1:(ms ++ [s]).length = ms.length + 1:=by simp
 have e2:strsV ms ++ [.string s] = strsV (ms ++ [s]):=by simp [strsV]
 refine ⟨bx.cell 6 _ rfl,bx.free 6 (by simp),?_,?_,?_,?_,?_,h1,h2,h.o3,h.o4,h.oP⟩
 ·exact (h.rd.keepB hb (by omega) (fun k hk _ => by have:=h.oP k hk;omega)).elsewhere (p:=⟨bs,6,none⟩) (Nat.ne_of_lt h1) (fun hk => by have:=h.oP bs hk;omega) _
 ·rw [e1];exact bx.set (j:=6) _ rfl
 ·rw [e1, ← e2];exact ownsRow_setCell_below hown (Nat.lt_succ_self _) _
 ·exact (h.rb.keep hb (by omega)).else (by show bs ≠ B0;omega) _
 ·refine Oth.setNew ?_ (by have:=h.o4;show w0.heap.size ≤ bs;omega) _
  have ho:=h.oth
  exact ⟨hb.os.trans ho.os,hb.tape.trans ho.tape,hb.output.trans ho.output,Nat.le_trans ho.size hb.size,fun k hk hne => (hb.block k (by have:=h.o4;omega)).trans (ho.block k hk hne)⟩
end
/-- a round is done -/
def GST (w0:World) (B0 br bs:Nat) (P:Nat → Prop) (q:Sn) (l:List UInt8) (ms:List ByteArray) (wx:World):Prop :=
 ∃ A c g cap,GS w0 B0 br bs P q A c (mtext l false).2.1 (mtext l false).2.2 (some ⟨g,0,none⟩) cap (ms ++ [(mtext l false).1]) wx
def GSR (w0:World) (B0 br bs:Nat) (P:Nat → Prop) (q:Sn) (Q:List ByteArray × List UInt8 × Bool) (nv:Value) (wr:World):Prop :=
 ∃ (m:Nat) (A:Option Addr) (c:Nat) (l:List UInt8) (e:Bool) (fA:Option Addr) (fc:Nat) (ms:List ByteArray),nv = .int .u64 (m:Int) ∧ m < 18446744073709551616 ∧ (e = false → ms.length ≤ 8) ∧ Hid (mtexts m l e ms = Q) ∧ GS w0 B0 br bs P q A c l e fA fc ms wr
def SnEnd (w:World) (b:Nat) (P:Nat → Prop) (r:MSn) (e:Ending) (w':World):Prop :=
 ∃ F fc,e = .returned (.agg #[.int .u64 (r.1.id.toNat:Int),.int .u64 (r.1.par.toNat:Int),.int .u64 (r.1.seq.toNat:Int),.int .u64 (r.1.off.toNat:Int),.int .u64 (r.1.tim.toNat:Int),.int .u32 (r.1.sch.toNat:Int),.slice F r.1.ms.length fc]) ∧ w'.ownsRow w.heap.size 9 1 (.slice F r.1.ms.length fc) r.1.ms.length (strsV r.1.ms) ∧ (∃ A c,RdrB w' b P A c r.2.1 r.2.2) ∧ Oth b w w'
theorem snEnd_of {w0 wr:World} {B0 br bs c fc:Nat} {P P2:Nat → Prop} {e:Bool} {q:Sn} {A fA:Option Addr} {l:List UInt8} {ms:List ByteArray} {r:MSn} {v0 v1 v2 v3 v4 v5 v6:Value} (h:GS w0 B0 br bs P q A c l e fA fc ms wr) (hr:r = (⟨q.id,q.par,q.seq,q.off,q.tim,q.sch,ms⟩,l,e)) (hi:∀ k,P k → P2 k) (hn:¬ P2 br) :
 SnEnd w0 br P2 r (.returned (.agg #[.int .u64 (q.id.toNat:Int),.int .u64 (q.par.toNat:Int),.int .u64 (q.seq.toNat:Int),.int .u64 (q.off.toNat:Int),.int .u64 (q.tim.toNat:Int),.int .u32 (q.sch.toNat:Int),.slice fA ms.length fc])) (set7 wr B0 v0 v1 v2 v3 v4 v5 v6):=by
 subst hr
 have h2:=h.o2
 have h4:=h.o4
 exact ⟨fA,fc,rfl,own_base (own_set7 h.own (by omega)) (by omega),⟨A,c,(h.rd.set7 (Nat.ne_of_lt h.o3) (fun hk => Nat.lt_irrefl _ (h.oP _ hk))).imp (fun k hk _ => hi k hk) hn⟩,h.oth.set7 h.o4⟩
theorem ofNat64' {n:Nat} (h:n < 18446744073709551616):(UInt64.ofNat n).toNat = n:=by rw [UInt64.toNat_ofNat'];omega
set_option maxHeartbeats 4000000 in
theorem metaSnapR (w:World) (br:Nat) (P:Nat → Prop) (A:Option Addr) (c:Nat) (l:List UInt8) (bad:Bool) (h:RdrB w br P A c l bad) :
 Calls Tryz.prog 111 #[.pointer (some ⟨br,0,none⟩)] w (SnEnd w br P (msnap l bad)):=by
 go_enter Tryz.func111,Tryz.ntmps111
 go_wp2_with fail
 have x0:=boxN_new w #[.int .u64 0,.int .u64 0,.int .u64 0,.int .u64 0,.int .u64 0,.int .u32 0,.slice none 0 0] 43
 have hb0:=(Below.refl w.heap.size w).alloc (Nat.le_refl _) (.cells #[.int .u64 0,.int .u64 0,.int .u64 0,.int .u64 0,.int .u64 0,.int .u32 0,.slice none 0 0] 43)
 have hnP:=h.nP
 have h0:=(h.imp (Q:=fun k => P k ∧ k < w.heap.size) (fun k hk hl => ⟨hk,hl⟩) (fun q => h.nP q.1)).keep hb0
 have ho:=Oth.of (b:=br) hb0
 have z0:br < w.heap.size:=h.z
 generalize w.alloc (.cells #[.int .u64 0,.int .u64 0,.int .u64 0,.int .u64 0,.int .u64 0,.int .u32 0,.slice none 0 0] 43) = w0 at *
 obtain ⟨B0,hB0⟩:∃ B0,B0 = w.heap.size:=⟨_,rfl⟩
 rw [← hB0] at x0 z0 h0 ⊢
 have zw:w.heap.size ≤ B0:=Nat.le_of_eq hB0.symm
 have HQ0:Hid ((∀ k,(P k ∧ k < B0) → P k) ∧ ∀ k,(P k ∧ k < B0) → k < B0):=hide ⟨fun _ h => h.1,fun _ h => h.2⟩
 have hz0:¬ (P B0 ∧ B0 < B0):=fun q => Nat.lt_irrefl _ q.2
 have hzb:∀ k,B0 < k → ¬ (P k ∧ k < B0):=fun k hk q => by omega
 generalize hQ0:(fun k => P k ∧ k < B0) = Q0 at *
 replace HQ0:Hid ((∀ k,Q0 k → P k) ∧ ∀ k,Q0 k → k < B0):=hide (by rw [← hQ0];exact HQ0.out)
 replace hz0:¬ Q0 B0:=by rw [← hQ0];exact hz0
 replace hzb:∀ k,B0 < k → ¬ Q0 k:=by rw [← hQ0];exact hzb
 clear hB0 hb0 h hQ0
 refine (metaNum w0 br Q0 A c l bad h0).mono ?_
 rintro e w1 ⟨rfl,⟨A1,c1,h1⟩,ho1⟩
 have hlt:=mnum_lt l bad
 obtain ⟨n1,l1,b1,hn⟩:∃ n l' b',mnum l bad = (n,l',b'):=⟨_,_,_,rfl⟩
 rw [hn] at h1 hlt ⊢
 dsimp only at h1 hlt ⊢
 obtain ⟨a1,rfl⟩:∃ a:UInt64,n1 = a.toNat:=⟨UInt64.ofNat n1,(ofNat64' hlt).symm⟩
 have HN1:=hide hn
 have x1:=x0.oth ho1 (by omega)
 have hp1:=ho.trans ho1
 clear hn hlt h0 x0 ho1 ho
 go_wp2_with fail
 refine (metaNum w1 br Q0 A1 c1 l1 b1 h1).mono ?_
 rintro e w2 ⟨rfl,⟨A2,c2,h2⟩,ho2⟩
 have hlt:=mnum_lt l1 b1
 obtain ⟨n2,l2,b2,hn⟩:∃ n l' b',mnum l1 b1 = (n,l',b'):=⟨_,_,_,rfl⟩
 rw [hn] at h2 hlt ⊢
 dsimp only at h2 hlt ⊢
 obtain ⟨a2,rfl⟩:∃ a:UInt64,n2 = a.toNat:=⟨UInt64.ofNat n2,(ofNat64' hlt).symm⟩
 have HN2:=hide hn
 have x2:=x1.oth ho2 (by omega)
 have hp2:=hp1.trans ho2
 clear hn hlt h1 x1 ho2 hp1
 go_wp2_with fail
 refine (metaNum w2 br Q0 A2 c2 l2 b2 h2).mono ?_
 rintro e w3 ⟨rfl,⟨A3,c3,h3⟩,ho3⟩
 have hlt:=mnum_lt l2 b2
 obtain ⟨n3,l3,b3,hn⟩:∃ n l' b',mnum l2 b2 = (n,l',b'):=⟨_,_,_,rfl⟩
 rw [hn] at h3 hlt ⊢
 dsimp only at h3 hlt ⊢
 obtain ⟨a3,rfl⟩:∃ a:UInt64,n3 = a.toNat:=⟨UInt64.ofNat n3,(ofNat64' hlt).symm⟩
 have HN3:=hide hn
 have x3:=x2.oth ho3 (by omega)
 have hp3:=hp2.trans ho3
 clear hn hlt h2 x2 ho3 hp2
 go_wp2_with fail
 refine (metaNum w3 br Q0 A3 c3 l3 b3 h3).mono ?_
 rintro e w4 ⟨rfl,⟨A4,c4,h4⟩,ho4⟩
 have hlt:=mnum_lt l3 b3
 obtain ⟨n4,l4,b4,hn⟩:∃ n l' b',mnum l3 b3 = (n,l',b'):=⟨_,_,_,rfl⟩
 rw [hn] at h4 hlt ⊢
 dsimp only at h4 hlt ⊢
 obtain ⟨a4,rfl⟩:∃ a:UInt64,n4 = a.toNat:=⟨UInt64.ofNat n4,(ofNat64' hlt).symm⟩
 have HN4:=hide hn
 have x4:=x3.oth ho4 (by omega)
 have hp4:=hp3.trans ho4
 clear hn hlt h3 x3 ho4 hp3
 go_wp2_with fail
 refine (metaNum w4 br Q0 A4 c4 l4 b4 h4).mono ?_
 rintro e w5 ⟨rfl,⟨A5,c5,h5⟩,ho5⟩
 have hlt:=mnum_lt l4 b4
 obtain ⟨n5,l5,b5,hn⟩:∃ n l' b',mnum l4 b4 = (n,l',b'):=⟨_,_,_,rfl⟩
 rw [hn] at h5 hlt ⊢
 dsimp only at h5 hlt ⊢
 obtain ⟨a5,rfl⟩:∃ a:UInt64,n5 = a.toNat:=⟨UInt64.ofNat n5,(ofNat64' hlt).symm⟩
 have HN5:=hide hn
 have x5:=x4.oth ho5 (by omega)
 have hp5:=hp4.trans ho5
 clear hn hlt h4 x4 ho5 hp4
 go_wp2_with fail
 have xs:=boxN_new w5 #[.int .u64 (a1.toNat:Int),.int .u64 (a2.toNat:Int),.int .u64 (a3.toNat:Int),.int .u64 (a4.toNat:Int),.int .u64 (a5.toNat:Int),.int .u32 0,.slice none 0 0] 43
 have hbA:=(Below.refl w5.heap.size w5).alloc (Nat.le_refl _) (.cells #[.int .u64 (a1.toNat:Int),.int .u64 (a2.toNat:Int),.int .u64 (a3.toNat:Int),.int .u64 (a4.toNat:Int),.int .u64 (a5.toNat:Int),.int .u32 0,.slice none 0 0] 43)
 have hA:=h5.keep hbA
 have xA:=x5.keep hbA x5.z
 have hpA:=hp5.trans (.of hbA)
 have o1:br < w5.heap.size:=h5.z
 have o2:B0 < w5.heap.size:=x5.z
 generalize w5.alloc (.cells #[.int .u64 (a1.toNat:Int),.int .u64 (a2.toNat:Int),.int .u64 (a3.toNat:Int),.int .u64 (a4.toNat:Int),.int .u64 (a5.toNat:Int),.int .u32 0,.slice none 0 0] 43) = wA at *
 generalize w5.heap.size = bs at *
 clear h5 x5 hp5 hbA
 refine (metaNum wA br Q0 A5 c5 l5 b5 hA).mono ?_
 rintro e w6 ⟨rfl,⟨A6,c6,h6⟩,ho6⟩
 have hlt:=mnum_lt l5 b5
 obtain ⟨n6,l6,b6,hn⟩:∃ n l' b',mnum l5 b5 = (n,l',b'):=⟨_,_,_,rfl⟩
 rw [hn] at h6 hlt ⊢
 dsimp only at h6 hlt ⊢
 have HN6:=hide hn
 have x6:=xA.oth ho6 (by omega)
 have xs6:=xs.oth ho6 (by omega)
 have hp6:=hpA.trans ho6
 obtain ⟨sc,hsc⟩:∃ s:UInt32,s = UInt32.ofNat n6:=⟨_,rfl⟩
 have a32:(n6:Int) % 4294967296 = (sc.toNat:Int):=by rw [hsc,UInt32.toNat_ofNat'];omega
 have a32w:IntKind.u32.wrap (n6:Int) = (sc.toNat:Int):=by rw [IntKind.wrap_u32];exact a32
 have HSC:=hide hsc
 have u5:=xs6.cell 5 _ rfl
 have f5:=xs6.free 5 (by simp)
 have c1:=h6.c1
 have f1:=h6.f1
 have n1:br ≠ bs:=by omega
 have n2:bs ≠ br:=by omega
 have y6:=xs6.set (j:=5) (.int .u32 (sc.toNat:Int)) rfl
 have k6:=h6.elsewhere (p:=⟨bs,5,none⟩) n1 (hzb bs o2) (.int .u32 (sc.toNat:Int))
 have z6:=x6.else (p:=⟨bs,5,none⟩) (by show bs ≠ B0;omega) (.int .u32 (sc.toNat:Int))
 have q6:=hp6.setNew (p:=⟨bs,5,none⟩) (show w.heap.size ≤ bs by omega) (.int .u32 (sc.toNat:Int))
 obtain ⟨tb,htb⟩:∃ tb,tb = decide (4294967295 < n6):=⟨_,rfl⟩
 have t1:decide ((4294967295:Int) < (n6:Int)) = tb:=by rw [htb,Bool.eq_iff_iff];simp only [decide_eq_true_eq];omega
 have HTB:=hide htb
 have HK:=hide (And.intro y6 (And.intro k6 (And.intro z6 q6)))
 clear hn hlt hsc htb hA xA xs x6 xs6 hp6 hpA ho6 h6 y6 k6 z6 q6
 go_upto_region 4 with fail
 go_cut [] from 21 to 31 (fun wx => wx = (w6.setCell ⟨bs,5,none⟩ (.int .u32 (sc.toNat:Int))).setCell ⟨br,1,none⟩ (.bool (b6 || tb)))
 case first =>
  cases b6 with
  | true =>
    go_wp2_with fail
    go_meet
    exact rfl
  | false =>
    go_wp2_with fail
    go_meet
    exact rfl
 case rest =>
 clear u5 f5 c1 f1 a32 a32w t1
 have hG:GS w B0 br bs Q0 ⟨a1,a2,a3,a4,a5,sc,[]⟩ A6 c6 l6 (b6 || tb) none 0 [] wc:=by
  subst hcut
  obtain ⟨y6,k6,z6,q6⟩:=HK.out
  exact ⟨k6.set1 (b6 || tb),y6.else (p:=⟨br,1,none⟩) n1 _,World.ownsRow_nil _ _ _ _,z6.else (p:=⟨br,1,none⟩) (show br ≠ B0 by omega) _,q6.set 1 _,o1,o2,z0,zw,HQ0.out.2⟩
 clear hcut HK
 go_wp2_with fail
 refine (metaNum wc br Q0 A6 c6 l6 (b6 || tb) hG.rd).mono ?_
 rintro e w7 ⟨rfl,⟨A7,c7,h7⟩,ho7⟩
 have hlt:=mnum_lt l6 (b6 || tb)
 obtain ⟨N,l7,b7,hn⟩:∃ n l' b',mnum l6 (b6 || tb) = (n,l',b'):=⟨_,_,_,rfl⟩
 rw [hn] at h7 hlt ⊢
 dsimp only at h7 hlt ⊢
 have HN7:=hide hn
 have G7:=hG.go h7 ho7
 obtain ⟨Q,hQ⟩:∃ Q,mtexts N l7 b7 [] = Q:=⟨_,rfl⟩
 have HQ:=hide hQ
 have HR:Hid (msnap l bad = (⟨a1,a2,a3,a4,a5,sc,Q.1⟩,Q.2.1,Q.2.2)):=hide (by
  rw [msnap_of HN1.out HN2.out HN3.out HN4.out HN5.out HN6.out (by rw [← HTB.out];exact HN7.out) (hQ.trans (show Q = (Q.1,Q.2.1,Q.2.2) from rfl)),HSC.out]
  simp only [mk7,UInt64.ofNat_toNat])
 clear hn hQ hG ho7 h7 HN1 HN2 HN3 HN4 HN5 HN6 HN7 HSC HTB
 obtain ⟨ti,hti,hti1,hti2,hti3⟩:=info_parts tyStrs.inf
 go_wp2_with fail
 go_loopw [4] (GSR w B0 br bs Q0 ⟨a1,a2,a3,a4,a5,sc,[]⟩ Q) (fun iv _ => (intOf iv).toNat)
 case atStart => exact ⟨N,A7,c7,l7,b7,none,0,[],rfl,hlt,fun _ => by simp,HQ,G7⟩
 case round =>
  clear G7 hlt
  obtain ⟨m,A',c',l',e',fA,fc,ms,rfl,hm64,hlen,hrd,G⟩:=hrel
  have k1:=G.rd.c1
  have s0:=G.bx.cell 6 _ rfl
  have HG:=hide G
  by_cases hx:m = 0 ∨ e' = true
  ·
   have hq:=mtexts_end (l:=l') (acc:=ms) hx
   rw [hrd.out] at hq
   have HQ2:=hide hq
   have d0:=G.bx.cell 0 _ rfl
   have d1:=G.bx.cell 1 _ rfl
   have d2:=G.bx.cell 2 _ rfl
   have d3:=G.bx.cell 3 _ rfl
   have d4:=G.bx.cell 4 _ rfl
   have d5:=G.bx.cell 5 _ rfl
   have g0:=G.rb.cell 0 _ rfl
   have fg0:=G.rb.free 0 (by simp)
   have g1:=G.rb.cell 1 _ rfl
   have fg1:=G.rb.free 1 (by simp)
   have g2:=G.rb.cell 2 _ rfl
   have fg2:=G.rb.free 2 (by simp)
   have g3:=G.rb.cell 3 _ rfl
   have fg3:=G.rb.free 3 (by simp)
   have g4:=G.rb.cell 4 _ rfl
   have fg4:=G.rb.free 4 (by simp)
   have g5:=G.rb.cell 5 _ rfl
   have fg5:=G.rb.free 5 (by simp)
   have g6:=G.rb.cell 6 _ rfl
   have fg6:=G.rb.free 6 (by simp)
   have nb1:bs ≠ B0:=by have:=G.o2;omega
   have nb2:B0 ≠ bs:=by have:=G.o2;omega
   have hres:msnap l bad = (⟨a1,a2,a3,a4,a5,sc,ms⟩,l',e'):=by rw [HR.out,hq]
   have HRES:=hide hres
   clear hq hrd hlen G hres
   by_cases hm:m = 0
   ·have t1:¬ 0 < m:=by omega
    have t2:decide ((0:Int) < (m:Int)) = false:=decide_eq_false (by omega)
    clear hx
    go_wp2_with fail
    (try simp only [Exit.inBlock,Exit.then])
    refine bodyPost_ret (ret_sn1 (b:=B0) rfl _ _ rfl HG.out.rb.set7) rfl ?_
    exact snEnd_of HG.out HRES.out HQ0.out.1 hnP
   ·obtain rfl:e' = true:=by simpa [hm] using hx
    have t2:decide ((0:Int) < (m:Int)) = true:=decide_eq_true (by omega)
    clear hx
    go_wp2_with fail
    (try simp only [Exit.inBlock,Exit.then])
    refine bodyPost_ret (ret_sn1 (b:=B0) rfl _ _ rfl HG.out.rb.set7) rfl ?_
    exact snEnd_of HG.out HRES.out HQ0.out.1 hnP
  ·
   have hm0:0 < m:=by omega
   obtain rfl:e' = false:=by cases e' <;> simp_all
   have hl8:=hlen rfl
   have hq:=hrd.out
   rw [show m = (m - 1) + 1 by omega,mtexts_on] at hq
   have HQ2:=hide hq
   have t1:decide ((0:Int) < (m:Int)) = true:=decide_eq_true (by omega)
   have HM:=hide hm0
   have f6:=G.bx.free 6 (by simp)
   clear hq hrd hlen hx hm0 G
   go_upto_region 8 with fail
   go_cut [] from 34 to 64 (fun wx => GST w B0 br bs Q0 ⟨a1,a2,a3,a4,a5,sc,[]⟩ l' ms wx)
   case first =>
    rename_i J K1 hJ hK1
    refine wp_region_held_drew (S:=fun _ => True) (by kernel_rfl) ?_ (fun hHeld => ?_)
    ·trivial
    refine wpAnyH_take (i:=0) (v:=?_) rfl (by kernel_rfl) (by kernel_rfl) (by kernel_rfl) (fun _ _ _ h => h) (Or.inl ⟨by rfl,?_⟩) hHeld ?_
    rotate_left 1
    ·(intro w hSw;go_simp;first | done | with_reducible rfl)
    (try simp only [Act.put,zA0])
    refine wpAnyH_take (i:=2) (v:=?_) rfl (by kernel_rfl) (by kernel_rfl) (by kernel_rfl) (fun _ _ _ h => h) (Or.inl ⟨by rfl,?_⟩) hHeld ?_
    rotate_left 1
    ·(intro w hSw;go_simp;first | done | with_reducible rfl)
    (try simp only [Act.put])
    refine wpAnyH_ready (rs:=[1,3]) (by kernel_rfl) (by simp) ?_
    refine AllReadyH.cons rfl (fun K hK => ?_) (AllReadyH.cons rfl (fun K hK => ?_) (AllReadyH.nil))
    ·go_simp
     refine hK.out _ _ trivial (fun hHeld => ?_)
     clear hK K
     (try simp only [Act.put,zA0,zB0,zC0])
     refine wpAnyH_ready (rs:=[3]) (by kernel_rfl) (by simp) ?_
     refine AllReadyH.cons rfl (fun K hK => ?_) (AllReadyH.nil)
     ·go_simp
      go_at_call 170
      refine (metaRText wr.drew br Q0 A' c' l' false HG.out.rd.drew).mono ?_
      rintro e w6 ⟨rfl,⟨A6,c6,rd6⟩,ho6⟩
      obtain ⟨s6,l6,e6,hT⟩:∃ s l e,mtext l' false = (s,l,e):=⟨_,_,_,rfl⟩
      rw [hT] at rd6 ⊢
      dsimp only at rd6 ⊢
      have HT:=hide hT
      have HG6:=hide (HG.out.drew.go rd6 ho6)
      have s1:=HG6.out.bx.cell 6 _ rfl
      have HL:=hide (HG6.out.lit s6)
      have hz6:bs + 1 ≤ w6.heap.size:=HG6.out.bx.z
      have hbL:=(Below.refl w6.heap.size w6).alloc (Nat.le_refl _) (.cells #[.string s6] 9)
      have s2:=(HG6.out.bx.keep hbL HG6.out.bx.z).cell 6 _ rfl
      clear hT hbL rd6 ho6
      (try dsimp only)
      refine hK.out _ _ trivial (fun hHeld => ?_)
      clear hK K
      (try simp only [Act.put,zA0,zB0,zC0])
      refine wpAnyH_ready (rs:=[4]) (by kernel_rfl) (by simp) ?_
      refine AllReadyH.cons rfl (fun K hK => ?_) (AllReadyH.nil)
      ·go_simp
       refine hK.out _ _ trivial (fun hHeld => ?_)
       clear hK K
       (try simp only [Act.put,zA0,zB0,zC0])
       refine wpAnyH_ready (rs:=[5]) (by kernel_rfl) (by simp) ?_
       refine AllReadyH.cons rfl (fun K hK => ?_) (AllReadyH.nil)
       ·refine step_append_lies _ rfl (.tmp 46) (.tmp 49) 41 rfl (bs + 1) 9 ti _ 1 16 Tryz.underlying41 hti hti1 hti2 hti3 tyStrs.zs (by decide) _ ms.length (strsV ms) (by simp [Act.eval]) HL.out.1 _ 1 1 [.string s6] (by simp [Act.eval]) rfl HL.out.2 (strsV_one [s6]) (by omega) (by unfold maxLen <;> omega) (by omega) (by simp <;> omega) _ rfl ?_
        intro g cap w8 hown8 hg8 _ _
        obtain ⟨d1,d2,hG8⟩:=HG6.out.grown hown8 hg8
        have HG8:=hide hG8
        clear hown8 hg8 hG8
        refine hK.out _ _ trivial (fun hHeld => ?_)
        clear hK K
        (try simp only [Act.put,zA0])
        refine wpAnyH_take (i:=6) (v:=?_) rfl (by kernel_rfl) (by kernel_rfl) (by kernel_rfl) (fun _ _ _ h => h) (Or.inl ⟨by rfl,?_⟩) hHeld ?_
        rotate_left 1
        ·(intro w hSw;go_simp;first | done | with_reducible rfl)
        (try simp only [Act.put])
        refine wpAnyH_ready (rs:=[7]) (by kernel_rfl) (by simp) ?_
        refine AllReadyH.cons rfl (fun K hK => ?_) (AllReadyH.nil)
        ·go_simp
         refine hK.out _ _ trivial (fun hHeld => ?_)
         clear hK K
         (try simp only [Act.put,zA0,zB0,zC0])
         refine wpAnyH_done (by kernel_rfl) ?_ _
         refine hK1 _ _ ?_
         go_meet
         exact ⟨A6,c6,_,cap,by rw [HT.out];exact HG8.out⟩
    ·go_simp
     go_at_call 170
     refine (metaRText wr.drew br Q0 A' c' l' false HG.out.rd.drew).mono ?_
     rintro e w6 ⟨rfl,⟨A6,c6,rd6⟩,ho6⟩
     obtain ⟨s6,l6,e6,hT⟩:∃ s l e,mtext l' false = (s,l,e):=⟨_,_,_,rfl⟩
     rw [hT] at rd6 ⊢
     dsimp only at rd6 ⊢
     have HT:=hide hT
     have HG6:=hide (HG.out.drew.go rd6 ho6)
     have s1:=HG6.out.bx.cell 6 _ rfl
     have HL:=hide (HG6.out.lit s6)
     have hz6:bs + 1 ≤ w6.heap.size:=HG6.out.bx.z
     have hbL:=(Below.refl w6.heap.size w6).alloc (Nat.le_refl _) (.cells #[.string s6] 9)
     have s2:=(HG6.out.bx.keep hbL HG6.out.bx.z).cell 6 _ rfl
     clear hT hbL rd6 ho6
     (try dsimp only)
     refine hK.out _ _ trivial (fun hHeld => ?_)
     clear hK K
     (try simp only [Act.put,zA0,zB0,zC0])
     refine wpAnyH_ready (rs:=[1,4]) (by kernel_rfl) (by simp) ?_
     refine AllReadyH.cons rfl (fun K hK => ?_) (AllReadyH.cons rfl (fun K hK => ?_) (AllReadyH.nil))
     ·go_simp
      refine hK.out _ _ trivial (fun hHeld => ?_)
      clear hK K
      (try simp only [Act.put,zA0,zB0,zC0])
      refine wpAnyH_ready (rs:=[4]) (by kernel_rfl) (by simp) ?_
      refine AllReadyH.cons rfl (fun K hK => ?_) (AllReadyH.nil)
      ·go_simp
       refine hK.out _ _ trivial (fun hHeld => ?_)
       clear hK K
       (try simp only [Act.put,zA0,zB0,zC0])
       refine wpAnyH_ready (rs:=[5]) (by kernel_rfl) (by simp) ?_
       refine AllReadyH.cons rfl (fun K hK => ?_) (AllReadyH.nil)
       ·refine step_append_lies _ rfl (.tmp 46) (.tmp 49) 41 rfl (bs + 1) 9 ti _ 1 16 Tryz.underlying41 hti hti1 hti2 hti3 tyStrs.zs (by decide) _ ms.length (strsV ms) (by simp [Act.eval]) HL.out.1 _ 1 1 [.string s6] (by simp [Act.eval]) rfl HL.out.2 (strsV_one [s6]) (by omega) (by unfold maxLen <;> omega) (by omega) (by simp <;> omega) _ rfl ?_
        intro g cap w8 hown8 hg8 _ _
        obtain ⟨d1,d2,hG8⟩:=HG6.out.grown hown8 hg8
        have HG8:=hide hG8
        clear hown8 hg8 hG8
        refine hK.out _ _ trivial (fun hHeld => ?_)
        clear hK K
        (try simp only [Act.put,zA0])
        refine wpAnyH_take (i:=6) (v:=?_) rfl (by kernel_rfl) (by kernel_rfl) (by kernel_rfl) (fun _ _ _ h => h) (Or.inl ⟨by rfl,?_⟩) hHeld ?_
        rotate_left 1
        ·(intro w hSw;go_simp;first | done | with_reducible rfl)
        (try simp only [Act.put])
        refine wpAnyH_ready (rs:=[7]) (by kernel_rfl) (by simp) ?_
        refine AllReadyH.cons rfl (fun K hK => ?_) (AllReadyH.nil)
        ·go_simp
         refine hK.out _ _ trivial (fun hHeld => ?_)
         clear hK K
         (try simp only [Act.put,zA0,zB0,zC0])
         refine wpAnyH_done (by kernel_rfl) ?_ _
         refine hK1 _ _ ?_
         go_meet
         exact ⟨A6,c6,_,cap,by rw [HT.out];exact HG8.out⟩
     ·go_simp
      refine hK.out _ _ trivial (fun hHeld => ?_)
      clear hK K
      (try simp only [Act.put,zA0,zB0,zC0])
      refine wpAnyH_ready (rs:=[1]) (by kernel_rfl) (by simp) ?_
      refine AllReadyH.cons rfl (fun K hK => ?_) (AllReadyH.nil)
      ·go_simp
       refine hK.out _ _ trivial (fun hHeld => ?_)
       clear hK K
       (try simp only [Act.put,zA0,zB0,zC0])
       refine wpAnyH_ready (rs:=[5]) (by kernel_rfl) (by simp) ?_
       refine AllReadyH.cons rfl (fun K hK => ?_) (AllReadyH.nil)
       ·refine step_append_lies _ rfl (.tmp 46) (.tmp 49) 41 rfl (bs + 1) 9 ti _ 1 16 Tryz.underlying41 hti hti1 hti2 hti3 tyStrs.zs (by decide) _ ms.length (strsV ms) (by simp [Act.eval]) HL.out.1 _ 1 1 [.string s6] (by simp [Act.eval]) rfl HL.out.2 (strsV_one [s6]) (by omega) (by unfold maxLen <;> omega) (by omega) (by simp <;> omega) _ rfl ?_
        intro g cap w8 hown8 hg8 _ _
        obtain ⟨d1,d2,hG8⟩:=HG6.out.grown hown8 hg8
        have HG8:=hide hG8
        clear hown8 hg8 hG8
        refine hK.out _ _ trivial (fun hHeld => ?_)
        clear hK K
        (try simp only [Act.put,zA0])
        refine wpAnyH_take (i:=6) (v:=?_) rfl (by kernel_rfl) (by kernel_rfl) (by kernel_rfl) (fun _ _ _ h => h) (Or.inl ⟨by rfl,?_⟩) hHeld ?_
        rotate_left 1
        ·(intro w hSw;go_simp;first | done | with_reducible rfl)
        (try simp only [Act.put])
        refine wpAnyH_ready (rs:=[7]) (by kernel_rfl) (by simp) ?_
        refine AllReadyH.cons rfl (fun K hK => ?_) (AllReadyH.nil)
        ·go_simp
         refine hK.out _ _ trivial (fun hHeld => ?_)
         clear hK K
         (try simp only [Act.put,zA0,zB0,zC0])
         refine wpAnyH_done (by kernel_rfl) ?_ _
         refine hK1 _ _ ?_
         go_meet
         exact ⟨A6,c6,_,cap,by rw [HT.out];exact HG8.out⟩
   case rest =>
    obtain ⟨A8,c8,g,cap,G8⟩:=hcut
    obtain ⟨s8,l8,e8,hT⟩:∃ s l e,mtext l' false = (s,l,e):=⟨_,_,_,rfl⟩
    rw [hT] at G8
    dsimp only at G8
    have HQ3:=HQ2.out
    rw [hT] at HQ3
    dsimp only at HQ3
    have k8:=G8.rd.c1
    have j8:=G8.rd.f1
    have r8:=G8.bx.cell 6 _ rfl
    have e1:(ms ++ [s8]).length = ms.length + 1:=by simp
    rw [e1] at r8
    obtain ⟨tc,htc⟩:∃ tc,tc = decide (8 < ms.length + 1):=⟨_,rfl⟩
    have t3:decide ((8:Int) < ((ms.length + 1:Nat):Int)) = tc:=by rw [htc,Bool.eq_iff_iff];simp only [decide_eq_true_eq];omega
    have t4:decide ((8:Int) < (ms.length:Int) + 1) = tc:=by rw [htc,Bool.eq_iff_iff];simp only [decide_eq_true_eq];omega
    rw [← htc] at HQ3
    have HQ4:=hide HQ3
    have HTC:=hide htc
    have HG8:=hide G8
    have hw1:IntKind.u64.wrap ((m:Int) - 1) = (m:Int) - 1:=by have:=HM.out;rw [IntKind.wrap_u64];omega
    have hw2:((m:Int) - 1) % 18446744073709551616 = (m:Int) - 1:=by have:=HM.out;omega
    clear HQ3 htc G8 k1 s0 f6 HQ2 hT HG
    cases e8 with
    | true =>
      go_wp2_with fail
      go_roundw
      case rel => exact ⟨m - 1,A8,c8,l8,true,_,cap,ms ++ [s8],by have:=HM.out;congr 1;omega,by omega,(fun hh => by cases hh),HQ4,HG8.out.why true⟩
      case measure => have:=HM.out;simp [intOf];omega
    | false =>
      go_wp2_with fail
      go_roundw
      case rel => exact ⟨m - 1,A8,c8,l8,tc,_,cap,ms ++ [s8],by have:=HM.out;congr 1;omega,by omega,(fun hh => by rw [HTC.out] at hh;simp at hh;simp;omega),HQ4,HG8.out.why tc⟩
      case measure => have:=HM.out;simp [intOf];omega
end
end Go.Proofs.YtpfofefecamkfaaGreatDoor
