/- For CatalogEntries. -/
import Derived.Test.YtpfofefecamkfaaGreatDoorZ1
import Derived.Test.YtpfofefecamkfaaGreatDoorZ7
namespace Go.Proofs.YtpfofefecamkfaaGreatDoor
open Go.RowKit Proofs.Tryz
set_option maxRecDepth 100000
set_option maxHeartbeats 16000000
set_option linter.all false
theorem Um (w B n c A l)(hr:Rd w B 1 A n c (AO l)):
 Calls prog 259 #[.slice A n c] w (Uk w l):=by
 obtain⟨g,hg⟩:=ib ((Var.get l).1);have G:g<18446744073709551616:=by rw[hg];exact Var.get_lt l
 have HG:=AB hg;have HL:=AB G;clear hg G;go_enter func259,ntmps259;go_wp2_with fail
 refine(JB w B n c A l hr).mono ?_;rintro e w1 ⟨rfl,rfl⟩;rw[<-HG.o];go_wp2;go_ret3;refine⟨?_,rfl⟩;unfold LB;rw[<-HG.o,<-Ul g HL.o];rfl
theorem LC (w b P A c l bad)(h:dS w b P A c l bad):
 Calls prog 219 #[iq b 0] w (OX w b P (Ai l bad)):=by
 have:=h.c0;have:=h.c1;have:=h.f0;have:=h.f1;go_enter func219,ntmps219;go_wp2_with fail
 refine(JB w w.heap.size _ c A l h.rd.rd).mono ?_;rintro e w1 ⟨rfl,rfl⟩;by_cases hg:(Var.get l).2.2=0
 .cases bad with
  | true=>
    have HN:=AB (JV (l:=l) (bad:=true) (.inr rfl));rw[hg];generalize (Var.get l).2.1=g2 at *;generalize (Var.get l).1=g1 at *;clear hg;(go_wp2_with fail);go_ret;exact⟨by rw[HN.o];rfl,⟨A,c,by rw[HN.o];exact h.set1 true⟩,(Oth.refl b w).set 1 _⟩
  | false=>
    have HN:=AB (L6 (l:=l) (bad:=false) (by simp[hg]));have hk:(Var.get l).2.1<=l.length:=(Var.get_ok (l:=l) (n:=(Var.get l).1) (k:=(Var.get l).2.1) (by rw[<-hg])).2.1;obtain⟨A2,l2,G,s1,s2,I⟩:=h.rd.lo hk;rw[<-G]at HN;obtain⟨g1,O⟩:∃g,g=(Var.get l).1:=⟨_,rfl⟩;rw[<-O]at HN ⊢;rw[hg];generalize (Var.get l).2.1=g2 at *;have HR:=AB I;clear hg O G hk I;(go_wp2_with fail);go_ret;exact⟨by rw[HN.o];rfl,⟨A2,c-g2,by rw[HN.o];exact h.set0 HR.o⟩,(Oth.refl b w).set 0 _⟩
 have HN:=AB (JV (l:=l) (bad:=bad) (.inl hg));obtain⟨g3,T⟩:∃g,g=(Var.get l).2.2:=⟨_,rfl⟩;rw[<-T]at hg ⊢;generalize (Var.get l).2.1=g2 at *;generalize (Var.get l).1=g1 at *;have:=gM g3 0;clear hg T;go_wp2_with fail
 go_ret;exact⟨by rw[HN.o];rfl,⟨A,c,by rw[HN.o];exact h.set1 true⟩,(Oth.refl b w).set 1 _⟩
theorem Oi (w b P A c l bad)(h:dS w b P A c l bad):
 Calls prog 220 #[iq b 0] w (OY w b P (C7 l bad)):=by
 go_enter func220,ntmps220;go_wp2_with fail
 refine(LC w b P A c l bad h).mono ?_;rintro e w1 ⟨rfl,⟨A1,c1,h1⟩,ho⟩;have HT:ga (C7 l bad=if (Ai l bad).2.2=true\/(Ai l bad).2.1.length<(Ai l bad).1 then (ByteArray.empty,(Ai l bad).2.1,true) else (⟨((Ai l bad).2.1.take (Ai l bad).1).toArray⟩,(Ai l bad).2.1.drop (Ai l bad).1,false)):=AB rfl;obtain⟨n,l1,b1,hm⟩:∃n l1 b1,Ai l bad=(n,l1,b1):=⟨_,_,_,rfl⟩;rw[hm]at h1 HT ⊢;dsimp only at h1 HT ⊢;have HM:=AB hm;clear hm;have d0:=h1.c0;have d1:=h1.c1;have f0:=h1.f0;have f1:=h1.f1;have I:l1.length<=9223372036854775807:=by have h2:=h1.rd.rd.le;have h3:=h1.rd.rd.cap;unfold maxLen at h3;omega
 have V:IntKind.u64.wrap (l1.length:Int)=(l1.length:Int):=by rw[BU];omega
 have Z:(l1.length:Int) % 18446744073709551616=(l1.length:Int):=gd;cases b1 with
 | true=>
   have HR:=AB (HT.o.trans (AJ (.inl rfl)));clear I V Z;(go_wp2_with fail);go_ret;exact⟨by rw[HR.o];rfl,⟨A1,c1,by rw[HR.o];exact h1.set1 true⟩,ho.set 1 _⟩
 | false=>
   by_cases hn:l1.length<n
   .have HR:=AB (HT.o.trans (AJ (.inr hn)));clear I;(go_wp2_with fail);go_ret;exact⟨by rw[HR.o];rfl,⟨A1,c1,by rw[HR.o];exact h1.set1 true⟩,ho.set 1 _⟩
   have HR:=AB (HT.o.trans (AE gt));obtain⟨A2,l2,O,s1,s2,T⟩:=h1.rd.lo (lo:=n) gd;have ad:=h1.rd.rd.le;have u1:=λk W=>Ev (P:=prog) As A1 l1.length c1 k (n:Int) n rfl gd W;have u2:=λk W=>EN (P:=prog) As A1 l1.length c1 k (n:Int) n rfl gd W;have G:Rd w1 w1.heap.size 1 A1 n c1 (AO (l1.take n)):=by
    have:=h1.rd.rd.pre (hi:=n) gd;simpa [AO,List.map_take]using this
   have ae:=Eb (P:=prog) w1 underlying55 underlying5 underlying9 G;have aa:=AB O;have ab:=AB T;clear O T G I;(go_wp2_with fail);go_ret;exact⟨by rw[HR.o];rfl,⟨A2,c1-n,by rw[HR.o];dsimp only;rw[<-aa.o];exact h1.set0 ab.o⟩,ho.set 0 _⟩
theorem LF (w b B A c l)(h:WB w b B A c l)(n)(h0:0<=n)(h1:n<=18446744073709551615)(hl:l.length<=900000):
 Calls prog 101 #[iq b 0,il n] w (Gk w b B (l++Var.put n.toNat)):=by
 have hp:=Var.put_le10 (n:=n.toNat) gd;have I:=put_pos n.toNat;have:=h.c0;obtain⟨ti,ad,V,Z,aa⟩:=DZ As.inf;obtain⟨p,ab⟩:=ia (Var.put n.toNat);have HV:∀w,Calls prog 153 #[il n] w (EA w p):=λw=>by rw[<-ab];exact Eg n w h0 h1
 rw[ab]at hp I ⊢;clear ab h0 h1;go_enter func101,ntmps101;go_upto_region 0 with fail
 refine wp_region_held_drew (S:=λ_=>True) gh ?_ (λhHeld=>?_)
 .trivial
 refine tK 0 ?_;refine tK 1 ?_;refine tK 2 ?_;refine tK 3 ?_;refine tK 5 ?_;refine wpAnyH_ready (rs:=[4,6]) gh gj ?_;refine AllReadyH.cons rfl (λK hK=>?_) (AllReadyH.cons rfl (λK hK=>?_) (AllReadyH.nil))
 .go_simp;refine hK.out _ _ trivial (λhHeld=>?_);clear hK K;refine ie ?_;refine rD 6 λK hK=>?_;go_simp;go_at_call 153;refine(HV w.drew).mono ?_;rintro e w1 ⟨v1,rfl,hown1,hb1⟩;obtain⟨g1,k1,rfl,ae,af⟩:=hown1.form I;have HW:=gS (h.drew.keep hb1) ((Wz.refl b B w).drew.trans (.of hb1)) (Gl hown1);have c1:=(h.drew.keep hb1).c0;clear hb1 hown1;refine hK.out _ _ trivial (λhHeld=>?_);clear hK K;refine ie ?_;refine rD 7 λK hK=>?_;refine Cw _ rfl (.tmp 8) (.tmp 10) 55 rfl B 5 ti _ 1 1 underlying55 ad V Z aa As.zs gm _ l.length (AO l) (by simp[Act.eval,Act.put]) HW.o.1.own _ p.length k1 (AO p) (by simp[Act.eval,Act.put]) (by rw[Bt,Nat.mul_one]) HW.o.2.2 (Bb _) gd gq gd HW.o.1.le _ rfl ?_;intro g cap w8 G O _ _;obtain⟨d0,d1,hG,hZ⟩:=HW.o.1.put G O;have T:=gR hG ((HW.o.2.1).trans hZ);clear G O hG hZ;refine hK.out _ _ trivial (λhHeld=>?_);clear hK K;refine ie ?_;refine tK 8 ?_;refine tK 9 ?_;refine rD 10 λK hK=>?_;go_simp;refine hK.out _ _ trivial (λhHeld=>?_);clear hK K;refine ie ?_;refine wpAnyH_done gh ?_ _;go_wp2_with fail
  go_end0;exact⟨rfl,⟨_,_,T.o.1⟩,T.o.2⟩
 go_simp;go_at_call 153;refine(HV w.drew).mono ?_;rintro e w1 ⟨v1,rfl,hown1,hb1⟩;obtain⟨g1,k1,rfl,ae,af⟩:=hown1.form I;have HW:=gS (h.drew.keep hb1) ((Wz.refl b B w).drew.trans (.of hb1)) (Gl hown1);have c1:=(h.drew.keep hb1).c0;clear hb1 hown1;refine hK.out _ _ trivial (λhHeld=>?_);clear hK K;refine ie ?_;refine rD 4 λK hK=>?_;go_simp;refine hK.out _ _ trivial (λhHeld=>?_);clear hK K;refine ie ?_;refine rD 7 λK hK=>?_;refine Cw _ rfl (.tmp 8) (.tmp 10) 55 rfl B 5 ti _ 1 1 underlying55 ad V Z aa As.zs gm _ l.length (AO l) (by simp[Act.eval,Act.put]) HW.o.1.own _ p.length k1 (AO p) (by simp[Act.eval,Act.put]) (by rw[Bt,Nat.mul_one]) HW.o.2.2 (Bb _) gd gq gd HW.o.1.le _ rfl ?_;intro g cap w8 G O _ _;obtain⟨d0,d1,hG,hZ⟩:=HW.o.1.put G O;have T:=gR hG ((HW.o.2.1).trans hZ);clear G O hG hZ;refine hK.out _ _ trivial (λhHeld=>?_);clear hK K;refine ie ?_;refine tK 8 ?_;refine tK 9 ?_;refine rD 10 λK hK=>?_;go_simp;refine hK.out _ _ trivial (λhHeld=>?_);clear hK K;refine ie ?_;refine wpAnyH_done gh ?_ _;go_wp2_with fail
 go_end0;exact⟨rfl,⟨_,_,T.o.1⟩,T.o.2⟩
theorem Om (w b B A c l)(h:WB w b B A c l)(s)(hl:l.length+s.size<=800000):
 Calls prog 162 #[iq b 0,.string s] w (Gk w b B (l++tx s)):=by
 have aa:IntKind.u64.wrap (s.size:Int)=(s.size:Int):=by rw[BU];omega
 have ab:(s.size:Int) % 18446744073709551616=(s.size:Int):=gd;have hp:=Var.put_le10 (n:=s.size) gd;go_enter func162,ntmps162;go_wp2_with fail
 refine(LF w b B A c l h (s.size:Int) gd gd gd).mono ?_;rintro e w1 ⟨rfl,⟨A1,c1,h1⟩,O⟩;rw[BM]at h1;have ad:(l++Var.put s.size).length=l.length+(Var.put s.size).length:=AR;have c0:=h1.c0;have ae:=h1.le;have T:Buf B (l++Var.put s.size) (.slice A1 (l++Var.put s.size).length c1) w1:=h1.own;have V:(l++Var.put s.size)++s.data.toList=l++tx s:=by unfold tx;rw[Az]
 have af:(l++Var.put s.size).length+s.size<=1000000:=gd;have HH:=gS h1 O V;generalize l++Var.put s.size=l1 at *;clear aa ab ad h1 O V hp h;go_wp2_with (at_builtin;refine Uo rfl (.tmp 13) (.tmp 14) rfl rfl T s rfl af ae ?_;intro v3 w3 I Z;obtain⟨A2,c2,rfl,d0,d1,hG,hZ⟩:=HH.o.1.puts I Z;have HG:=gR hG (HH.o.2.1.trans hZ);clear I Z hG hZ c0)
 go_end0;have e9:(l1++s.data.toList).length=l1.length+s.size:=by rw[AR,Array.length_toList];rfl
 have G:=HG.o;rw[e9,HH.o.2.2]at G;exact⟨rfl,⟨_,_,G.1⟩,G.2⟩
theorem LG (w b B A c l)(h:WB w b B A c l)(x)(hx:CZ x=true)(hl:l.length<=700000):
 Calls prog 201 #[iq b 0,.agg #[ip x.kind.toNat,io x.n.toInt,.string x.s]] w (Gk w b B (l++CA x)):=by
 obtain⟨q1,q2,q3,q4,q5,q6⟩:=IQ hx;obtain⟨k,hk⟩:=ia x.kind.toNat;obtain⟨n,hn⟩:=ia x.n.toInt;obtain⟨s,hs⟩:=ia x.s;have ae : -9223372036854775808<=n:=by rw[<-hn];exact Int64.le_toInt x.n
 have af:n<=9223372036854775807:=by have:=Int64.toInt_lt x.n;omega
 have hB:CA x=if k=1 then Var.put (zig n) else if k=2 then Var.put n.toNat else tx s:=by unfold CA;rw[hk,hn,hs]
 rw[hk]at q1 q2 q6;rw[hs]at q3;rw[hn]at q6;rw[hB,hk,hn,hs];clear hB hx hk hn hs q4 q5;have x0:=Dv w #[ip k,io n,.string s] 199;have G:=hI w (.cells #[ip k,io n,.string s] 199);have h1:=h.keep G;have Z:=(Wz.refl b B w).trans (.of G);rcases(show k=1\/k=2\/k=3 by omega)with rfl|rfl|rfl
 .have hz:=AB (Hn ae af);have hp:=Var.put_le10 (n:=zig n) hz.o;have V:=put_pos (zig n);rw[AJ rfl];obtain⟨p,ag⟩:=ia (Var.put (zig n));have HV:∀w,Calls prog 238 #[io n] w (EA w p):=λw=>by rw[<-ag];exact Uj n w ae af
  rw[ag]at hp V ⊢;obtain⟨ti,ah,aa,ab,ad⟩:=DZ As.inf;clear ag ae af q6 hz;go_enter func201,ntmps201;go_upto_region 4 with fail
  generalize w.alloc _=w0 at *;generalize w.heap.size=bs at *;have:=h1.c0;have:=x0.bx.cell 1 _ rfl;refine wp_region_held_drew (S:=λ_=>True) gh ?_ (λhHeld=>?_)
  .trivial
  refine tK 0 ?_;refine tK 1 ?_;refine tK 2 ?_;refine tK 3 ?_;refine tK 5 ?_;refine wpAnyH_ready (rs:=[4,6]) gh gj ?_;refine AllReadyH.cons rfl (λK hK=>?_) (AllReadyH.cons rfl (λK hK=>?_) (AllReadyH.nil))
  .go_simp;refine hK.out _ _ trivial (λhHeld=>?_);clear hK K;refine ie ?_;refine rD 6 λK hK=>?_;go_simp;refine hK.out _ _ trivial (λhHeld=>?_);clear hK K;refine ie ?_;refine rD 7 λK hK=>?_;go_simp;go_at_call 238;refine(HV w0.drew).mono ?_;rintro e w1 ⟨v1,rfl,hown1,G⟩;obtain⟨g1,k1,rfl,ai,aj⟩:=hown1.form V;have HW:=gS (h1.drew.keep G) ((Wz.refl b B w0).drew.trans (.of G)) (Gl hown1);have c1:=(h1.drew.keep G).c0;clear G hown1;refine hK.out _ _ trivial (λhHeld=>?_);clear hK K;refine ie ?_;refine rD 8 λK hK=>?_;refine Cw _ rfl (.tmp 16) (.tmp 19) 55 rfl B 5 ti _ 1 1 underlying55 ah aa ab ad As.zs gm _ l.length (AO l) (by simp[Act.eval,Act.put]) HW.o.1.own _ p.length k1 (AO p) (by simp[Act.eval,Act.put]) (by rw[Bt,Nat.mul_one]) HW.o.2.2 (Bb _) gd gq gd HW.o.1.le _ rfl ?_;intro g cap w8 I O _ _;obtain⟨d0,d1,hG,hZ⟩:=HW.o.1.put I O;have T:=gR hG ((HW.o.2.1).trans hZ);clear I O hG hZ;refine hK.out _ _ trivial (λhHeld=>?_);clear hK K;refine ie ?_;refine tK 9 ?_;refine tK 10 ?_;refine rD 11 λK hK=>?_;go_simp;refine hK.out _ _ trivial (λhHeld=>?_);clear hK K;refine ie ?_;refine wpAnyH_done gh ?_ _;(go_wp2_with fail);go_end0;exact⟨rfl,⟨_,_,T.o.1⟩,Z.trans T.o.2⟩
  go_simp;refine hK.out _ _ trivial (λhHeld=>?_);clear hK K;refine ie ?_;refine wpAnyH_ready (rs:=[4,7]) gh gj ?_;refine AllReadyH.cons rfl (λK hK=>?_) (AllReadyH.cons rfl (λK hK=>?_) (AllReadyH.nil))
  .go_simp;refine hK.out _ _ trivial (λhHeld=>?_);clear hK K;refine ie ?_;refine rD 7 λK hK=>?_;go_simp;go_at_call 238;refine(HV w0.drew).mono ?_;rintro e w1 ⟨v1,rfl,hown1,G⟩;obtain⟨g1,k1,rfl,ai,aj⟩:=hown1.form V;have HW:=gS (h1.drew.keep G) ((Wz.refl b B w0).drew.trans (.of G)) (Gl hown1);have c1:=(h1.drew.keep G).c0;clear G hown1;refine hK.out _ _ trivial (λhHeld=>?_);clear hK K;refine ie ?_;refine rD 8 λK hK=>?_;refine Cw _ rfl (.tmp 16) (.tmp 19) 55 rfl B 5 ti _ 1 1 underlying55 ah aa ab ad As.zs gm _ l.length (AO l) (by simp[Act.eval,Act.put]) HW.o.1.own _ p.length k1 (AO p) (by simp[Act.eval,Act.put]) (by rw[Bt,Nat.mul_one]) HW.o.2.2 (Bb _) gd gq gd HW.o.1.le _ rfl ?_;intro g cap w8 I O _ _;obtain⟨d0,d1,hG,hZ⟩:=HW.o.1.put I O;have T:=gR hG ((HW.o.2.1).trans hZ);clear I O hG hZ;refine hK.out _ _ trivial (λhHeld=>?_);clear hK K;refine ie ?_;refine tK 9 ?_;refine tK 10 ?_;refine rD 11 λK hK=>?_;go_simp;refine hK.out _ _ trivial (λhHeld=>?_);clear hK K;refine ie ?_;refine wpAnyH_done gh ?_ _;(go_wp2_with fail);go_end0;exact⟨rfl,⟨_,_,T.o.1⟩,Z.trans T.o.2⟩
  go_simp;go_at_call 238;refine(HV w0.drew).mono ?_;rintro e w1 ⟨v1,rfl,hown1,G⟩;obtain⟨g1,k1,rfl,ai,aj⟩:=hown1.form V;have HW:=gS (h1.drew.keep G) ((Wz.refl b B w0).drew.trans (.of G)) (Gl hown1);have c1:=(h1.drew.keep G).c0;clear G hown1;refine hK.out _ _ trivial (λhHeld=>?_);clear hK K;refine ie ?_;refine rD 4 λK hK=>?_;go_simp;refine hK.out _ _ trivial (λhHeld=>?_);clear hK K;refine ie ?_;refine rD 8 λK hK=>?_;refine Cw _ rfl (.tmp 16) (.tmp 19) 55 rfl B 5 ti _ 1 1 underlying55 ah aa ab ad As.zs gm _ l.length (AO l) (by simp[Act.eval,Act.put]) HW.o.1.own _ p.length k1 (AO p) (by simp[Act.eval,Act.put]) (by rw[Bt,Nat.mul_one]) HW.o.2.2 (Bb _) gd gq gd HW.o.1.le _ rfl ?_;intro g cap w8 I O _ _;obtain⟨d0,d1,hG,hZ⟩:=HW.o.1.put I O;have T:=gR hG ((HW.o.2.1).trans hZ);clear I O hG hZ;refine hK.out _ _ trivial (λhHeld=>?_);clear hK K;refine ie ?_;refine tK 9 ?_;refine tK 10 ?_;refine rD 11 λK hK=>?_;go_simp;refine hK.out _ _ trivial (λhHeld=>?_);clear hK K;refine ie ?_;refine wpAnyH_done gh ?_ _;go_wp2_with fail
  go_end0;exact⟨rfl,⟨_,_,T.o.1⟩,Z.trans T.o.2⟩
 .rw[AE gm,AJ rfl];have:=q6 rfl;have:IntKind.u64.wrap n=n:=by rw[BU];omega
  have:n % 18446744073709551616=n:=gd;go_enter func201,ntmps201;go_wp2_with fail
  refine(LF _ b B A c l h1 n gd gd gd).mono ?_;rintro e w2 ⟨rfl,h2,hz2⟩;go_wp2_with fail
  go_end0;exact⟨rfl,h2,Z.trans hz2⟩
 rw[AE gm,AE gm];go_enter func201,ntmps201;go_wp2_with fail
 refine(Om _ b B A c l h1 s gd).mono ?_;rintro e w2 ⟨rfl,h2,hz2⟩;go_wp2_with fail
 go_end0;exact⟨rfl,h2,Z.trans hz2⟩
theorem EF (w b B A c l)(h:WB w b B A c l)(n:Nat)(hn:n<18446744073709551616)(hl:l.length<=900000):
 Calls prog 101 #[iq b 0,il n] w (Gk w b B (l++Var.put n)):=by
 have:=LF w b B A c l h (n:Int) gd gd hl;rw[BM]at this;exact this
theorem Up (w b B A c l)(h:WB w b B A c l)(s)(hs:Dh s=true)(hl:l.length<=600000):
 Calls prog 163 #[iq b 0,.agg #[io s.rows.toInt,io s.nulls.toInt,.bool s.som,.bool s.high,ip s.mn.kind.toNat,io s.mn.n.toInt,.string s.mn.s,ip s.mx.kind.toNat,io s.mx.n.toInt,.string s.mx.s]] w (Gk w b B (l++E2 s)):=by
 obtain⟨q1,q2,q3,q4⟩:=JZ hs;obtain⟨n,hn⟩:∃n:Nat,s.nulls.toInt=(n:Int):=⟨s.nulls.toInt.toNat,gd⟩;have:n<18446744073709551616:=gd;have:IntKind.u64.wrap (n:Int)=(n:Int):=by rw[BU];omega
 have:(n:Int) % 18446744073709551616=(n:Int):=gd;have:=Var.put_le10 (n:=n) gd;have:=s.mn.kind.toNat_lt;have:=Var.put_le10 (n:=s.mn.kind.toNat) gd;have:=Var.put_le10 (n:=0) gd;have:=Var.put_le10 (n:=1) gd;have:=Var.put_le10 (n:=3) gd;have aE:E2 s=Var.put n++(if s.som=false then Var.put 0 else if s.high=true then Var.put 3++(Var.put s.mn.kind.toNat++(CA s.mn++CA s.mx)) else Var.put 1++(Var.put s.mn.kind.toNat++CA s.mn)):=by unfold E2;rw[hn,BM]
 rw[aE,hn];have x0:=Dv w #[io s.rows.toInt,io n,.bool s.som,.bool s.high,ip s.mn.kind.toNat,io s.mn.n.toInt,.string s.mn.s,ip s.mx.kind.toNat,io s.mx.n.toInt,.string s.mx.s] 201;have aF:=hI w (.cells #[io s.rows.toInt,io n,.bool s.som,.bool s.high,ip s.mn.kind.toNat,io s.mn.n.toInt,.string s.mn.s,ip s.mx.kind.toNat,io s.mx.n.toInt,.string s.mx.s] 201);have h1:=h.keep aF;have Z1:=(Wz.refl b B w).trans (.of aF);have Z:w.heap.size≠b:=by have:=h.z;omega
 clear aE hn hs q1 q2 q3;obtain⟨-,-,k1,m1⟩:=x0.bx.c4;cases O:s.som with
 | false=>
   rw[AJ rfl];(try rw[O]at x0);(try rw[O]at h1);(try rw[O]at Z1);(try rw[O]at k1);(try rw[O]at m1);clear q4;go_enter func163,ntmps163;(go_wp2_with fail);generalize w.alloc _=w1 at *;generalize w.heap.size=bs at *;have aG:l.length<=600000:=hl;refine(EF w1 b B A c l h1 n gd gd).mono ?_;rintro e w2 ⟨rfl,⟨A2,c2,h2⟩,hz⟩;have Z2:=Z1.trans hz;have x1:=x0.wz hz Z gm;obtain⟨l2,G⟩:=ia (l++Var.put n);rw[G]at h2;have aH:l2.length<=600100:=by rw[<-G,AR];omega
   have ad:=AB G;have k2:=x1.bx.cell 2 _ rfl;have m2:=x1.bx.cell 3 _ rfl;have ae:=x1.bx.cell 4 _ rfl;have af:=x1.bx.cell 5 _ rfl;have ag:=x1.bx.cell 6 _ rfl;have ah:=x1.bx.cell 7 _ rfl;have ai:=x1.bx.cell 8 _ rfl;have aj:=x1.bx.cell 9 _ rfl;clear G h1 hz x0 k1 m1;(go_wp2_with fail);refine(EF w2 b B A2 c2 l2 h2 0 gd gd).mono ?_;rintro e w3 ⟨rfl,⟨A3,c3,h3⟩,hz⟩;have Z3:=Z2.trans hz;have x2:=x1.wz hz Z gm;obtain⟨l3,I⟩:=ia (l2++Var.put 0);rw[I]at h3;have aI:l3.length<=600200:=by rw[<-I,AR];omega
   have ak:=AB I;have k3:=x2.bx.cell 2 _ rfl;have m3:=x2.bx.cell 3 _ rfl;have am:=x2.bx.cell 4 _ rfl;have ao:=x2.bx.cell 5 _ rfl;have ap:=x2.bx.cell 6 _ rfl;have aq:=x2.bx.cell 7 _ rfl;have ar:=x2.bx.cell 8 _ rfl;have au:=x2.bx.cell 9 _ rfl;clear I h2 hz x1 k2 m2 ae af ag ah ai aj;(go_wp2_with fail);go_end0;refine⟨rfl,⟨A3,c3,?_⟩,Z3⟩;rw[<-Az,ad.o,ak.o];exact h3
 | true=>
   obtain⟨b1,b2⟩:=q4 O;have:=Hp b1;rw[AE gj];(try rw[O]at x0);(try rw[O]at h1);(try rw[O]at Z1);(try rw[O]at k1);(try rw[O]at m1);cases aa:s.high with
   | true=>
     obtain⟨b3,-⟩:=b2 aa;have:=Hp b3;rw[AJ rfl];(try rw[aa]at x0);(try rw[aa]at h1);(try rw[aa]at Z1);(try rw[aa]at k1);(try rw[aa]at m1);clear b2 q4;go_enter func163,ntmps163;(go_wp2_with fail);generalize w.alloc _=w1 at *;generalize w.heap.size=bs at *;have aG:l.length<=600000:=hl;refine(EF w1 b B A c l h1 n gd gd).mono ?_;rintro e w2 ⟨rfl,⟨A2,c2,h2⟩,hz⟩;have Z2:=Z1.trans hz;have x1:=x0.wz hz Z gm;obtain⟨l2,G⟩:=ia (l++Var.put n);rw[G]at h2;have aH:l2.length<=600100:=by rw[<-G,AR];omega
     have ad:=AB G;have k2:=x1.bx.cell 2 _ rfl;have m2:=x1.bx.cell 3 _ rfl;have ae:=x1.bx.cell 4 _ rfl;have af:=x1.bx.cell 5 _ rfl;have ag:=x1.bx.cell 6 _ rfl;have ah:=x1.bx.cell 7 _ rfl;have ai:=x1.bx.cell 8 _ rfl;have aj:=x1.bx.cell 9 _ rfl;clear G h1 hz x0 k1 m1;(go_wp2_with fail);refine(EF w2 b B A2 c2 l2 h2 3 gd gd).mono ?_;rintro e w3 ⟨rfl,⟨A3,c3,h3⟩,hz⟩;have Z3:=Z2.trans hz;have x2:=x1.wz hz Z gm;obtain⟨l3,I⟩:=ia (l2++Var.put 3);rw[I]at h3;have aI:l3.length<=600200:=by rw[<-I,AR];omega
     have ak:=AB I;have k3:=x2.bx.cell 2 _ rfl;have m3:=x2.bx.cell 3 _ rfl;have am:=x2.bx.cell 4 _ rfl;have ao:=x2.bx.cell 5 _ rfl;have ap:=x2.bx.cell 6 _ rfl;have aq:=x2.bx.cell 7 _ rfl;have ar:=x2.bx.cell 8 _ rfl;have au:=x2.bx.cell 9 _ rfl;clear I h2 hz x1 k2 m2 ae af ag ah ai aj;(go_wp2_with fail);refine(EF w3 b B A3 c3 l3 h3 s.mn.kind.toNat gd gd).mono ?_;rintro e w4 ⟨rfl,⟨A4,c4,h4⟩,hz⟩;have Z4:=Z3.trans hz;have x3:=x2.wz hz Z gm;obtain⟨l4,T⟩:=ia (l3++Var.put s.mn.kind.toNat);rw[T]at h4;have aP:l4.length<=600300:=by rw[<-T,AR];omega
     have av:=AB T;have k4:=x3.bx.cell 2 _ rfl;have m4:=x3.bx.cell 3 _ rfl;have aw:=x3.bx.cell 4 _ rfl;have ax:=x3.bx.cell 5 _ rfl;have ay:=x3.bx.cell 6 _ rfl;have az:=x3.bx.cell 7 _ rfl;have aB:=x3.bx.cell 8 _ rfl;have aC:=x3.bx.cell 9 _ rfl;clear T h3 hz x2 k3 m3 am ao ap aq ar au;(go_wp2_with fail);refine(LG w4 b B A4 c4 l4 h4 s.mn b1 gd).mono ?_;rintro e w5 ⟨rfl,⟨A5,c5,h5⟩,hz⟩;have Z5:=Z4.trans hz;have x4:=x3.wz hz Z gm;obtain⟨l5,V⟩:=ia (l4++CA s.mn);rw[V]at h5;have aQ:l5.length<=600400:=by rw[<-V,AR];omega
     have aD:=AB V;have k5:=x4.bx.cell 2 _ rfl;have m5:=x4.bx.cell 3 _ rfl;have aJ:=x4.bx.cell 4 _ rfl;have aK:=x4.bx.cell 5 _ rfl;have aL:=x4.bx.cell 6 _ rfl;have aM:=x4.bx.cell 7 _ rfl;have aN:=x4.bx.cell 8 _ rfl;have aO:=x4.bx.cell 9 _ rfl;clear V h4 hz x3 k4 m4 aw ax ay az aB aC;(go_wp2_with fail);refine(LG w5 b B A5 c5 l5 h5 s.mx b3 gd).mono ?_;rintro e w6 ⟨rfl,⟨A6,c6,h6⟩,hz⟩;have Z6:=Z5.trans hz;have x5:=x4.wz hz Z gm;obtain⟨l6,ab⟩:=ia (l5++CA s.mx);rw[ab]at h6;have:l6.length<=600500:=by rw[<-ab,AR];omega
     have aR:=AB ab;have:=x5.bx.cell 2 _ rfl;have:=x5.bx.cell 3 _ rfl;have:=x5.bx.cell 4 _ rfl;have:=x5.bx.cell 5 _ rfl;have:=x5.bx.cell 6 _ rfl;have:=x5.bx.cell 7 _ rfl;have:=x5.bx.cell 8 _ rfl;have:=x5.bx.cell 9 _ rfl;clear ab h5 hz x4 k5 m5 aJ aK aL aM aN aO;(go_wp2_with fail);go_end0;refine⟨rfl,⟨A6,c6,?_⟩,Z6⟩;rw[<-Az,ad.o,<-Az,ak.o,<-Az,av.o,<-Az,aD.o,aR.o];exact h6
   | false=>
     rw[AE gj];(try rw[aa]at x0);(try rw[aa]at h1);(try rw[aa]at Z1);(try rw[aa]at k1);(try rw[aa]at m1);clear b2 q4;go_enter func163,ntmps163;(go_wp2_with fail);generalize w.alloc _=w1 at *;generalize w.heap.size=bs at *;have aG:l.length<=600000:=hl;refine(EF w1 b B A c l h1 n gd gd).mono ?_;rintro e w2 ⟨rfl,⟨A2,c2,h2⟩,hz⟩;have Z2:=Z1.trans hz;have x1:=x0.wz hz Z gm;obtain⟨l2,G⟩:=ia (l++Var.put n);rw[G]at h2;have aH:l2.length<=600100:=by rw[<-G,AR];omega
     have ad:=AB G;have k2:=x1.bx.cell 2 _ rfl;have m2:=x1.bx.cell 3 _ rfl;have ae:=x1.bx.cell 4 _ rfl;have af:=x1.bx.cell 5 _ rfl;have ag:=x1.bx.cell 6 _ rfl;have ah:=x1.bx.cell 7 _ rfl;have ai:=x1.bx.cell 8 _ rfl;have aj:=x1.bx.cell 9 _ rfl;clear G h1 hz x0 k1 m1;(go_wp2_with fail);refine(EF w2 b B A2 c2 l2 h2 1 gd gd).mono ?_;rintro e w3 ⟨rfl,⟨A3,c3,h3⟩,hz⟩;have Z3:=Z2.trans hz;have x2:=x1.wz hz Z gm;obtain⟨l3,I⟩:=ia (l2++Var.put 1);rw[I]at h3;have aI:l3.length<=600200:=by rw[<-I,AR];omega
     have ak:=AB I;have k3:=x2.bx.cell 2 _ rfl;have m3:=x2.bx.cell 3 _ rfl;have am:=x2.bx.cell 4 _ rfl;have ao:=x2.bx.cell 5 _ rfl;have ap:=x2.bx.cell 6 _ rfl;have aq:=x2.bx.cell 7 _ rfl;have ar:=x2.bx.cell 8 _ rfl;have au:=x2.bx.cell 9 _ rfl;clear I h2 hz x1 k2 m2 ae af ag ah ai aj;(go_wp2_with fail);refine(EF w3 b B A3 c3 l3 h3 s.mn.kind.toNat gd gd).mono ?_;rintro e w4 ⟨rfl,⟨A4,c4,h4⟩,hz⟩;have Z4:=Z3.trans hz;have x3:=x2.wz hz Z gm;obtain⟨l4,T⟩:=ia (l3++Var.put s.mn.kind.toNat);rw[T]at h4;have aP:l4.length<=600300:=by rw[<-T,AR];omega
     have av:=AB T;have k4:=x3.bx.cell 2 _ rfl;have m4:=x3.bx.cell 3 _ rfl;have aw:=x3.bx.cell 4 _ rfl;have ax:=x3.bx.cell 5 _ rfl;have ay:=x3.bx.cell 6 _ rfl;have az:=x3.bx.cell 7 _ rfl;have aB:=x3.bx.cell 8 _ rfl;have aC:=x3.bx.cell 9 _ rfl;clear T h3 hz x2 k3 m3 am ao ap aq ar au;(go_wp2_with fail);refine(LG w4 b B A4 c4 l4 h4 s.mn b1 gd).mono ?_;rintro e w5 ⟨rfl,⟨A5,c5,h5⟩,hz⟩;have Z5:=Z4.trans hz;have x4:=x3.wz hz Z gm;obtain⟨l5,V⟩:=ia (l4++CA s.mn);rw[V]at h5;have aQ:l5.length<=600400:=by rw[<-V,AR];omega
     have aD:=AB V;have k5:=x4.bx.cell 2 _ rfl;have m5:=x4.bx.cell 3 _ rfl;have aJ:=x4.bx.cell 4 _ rfl;have aK:=x4.bx.cell 5 _ rfl;have aL:=x4.bx.cell 6 _ rfl;have aM:=x4.bx.cell 7 _ rfl;have aN:=x4.bx.cell 8 _ rfl;have aO:=x4.bx.cell 9 _ rfl;clear V h4 hz x3 k4 m4 aw ax ay az aB aC;(go_wp2_with fail);go_end0;refine⟨rfl,⟨A5,c5,?_⟩,Z5⟩;rw[<-Az,ad.o,<-Az,ak.o,<-Az,av.o,aD.o];exact h5
theorem Ur (w b B A c l)(h:WB w b B A c l)(hbB:B<=b)(x)(hx:CP x=true)(SA sc)(hr:Rd w B 10 SA x.stats.length sc (BH x.stats))(hl:l.length<=300000):
 Calls prog 103 #[iq b 0,.agg (eNV x SA sc)] w (Gk w b B (l++E3 x)):=by
 obtain⟨g1,g2,g3,g4,g5,g6,g7⟩:=Gj hx;have gp:=Hq g1;obtain⟨rw,ak⟩:∃n:Nat,x.rows.toInt=(n:Int):=⟨x.rows.toInt.toNat,gd⟩;have hE:E3 x=tx x.name++(Var.put (DC x.keys)++(Var.put x.seq.toNat++(Var.put rw++(Var.put x.sch.toNat++(Var.put x.stats.length++CQ x.stats))))):=by unfold E3;rw[ak,BM]
 obtain⟨kb,aw⟩:=ia x.keys;unfold eNV;rw[hE,ak,aw];have aF:IntKind.u64.wrap (rw:Int)=(rw:Int):=by rw[BU];omega
 have aG:(rw:Int) % 18446744073709551616=(rw:Int):=gd;have ax:=x.sch.toNat_lt;have ay:=x.seq.toNat_lt;have aH:IntKind.u64.wrap (x.sch.toNat:Int)=(x.sch.toNat:Int):=by rw[BU];omega
 have aI:(x.sch.toNat:Int) % 18446744073709551616=(x.sch.toNat:Int):=gd;have aJ:IntKind.u64.wrap (x.stats.length:Int)=(x.stats.length:Int):=by rw[BU];omega
 have aK:(x.stats.length:Int) % 18446744073709551616=(x.stats.length:Int):=gd;have G:rw<18446744073709551616:=gd;have ae:x.seq.toNat<18446744073709551616:=gd;have af:x.sch.toNat<18446744073709551616:=gd;have am:x.stats.length<18446744073709551616:=gd;have p1:=JY x.name gd;have p2:=Var.put_le10 (n:=DC kb) (by unfold DC;split<;>omega);have p3:=Var.put_le10 (n:=x.seq.toNat) ae;have p4:=Var.put_le10 (n:=rw) G;have p5:=Var.put_le10 (n:=x.sch.toNat) af;have p6:=Var.put_le10 (n:=x.stats.length) am;have:x.name.size<=64:=gd;have H8:ga (x.stats.length<=8):=AB g6;have H7:=AB g7;have x0:=Dv w #[.string x.name,.bool kb,il x.seq.toNat,io rw,im x.sch.toNat,.slice SA x.stats.length sc] 97;have ao:=hI w (.cells #[.string x.name,.bool kb,il x.seq.toNat,io rw,im x.sch.toNat,.slice SA x.stats.length sc] 97);have h1:=h.keep ao;have Z1:=(Wz.refl b B w).trans (.of ao);have ad:w.heap.size≠b:=by have:=h.z;omega
 have:=h.z;have aL:=fun(w':World) hz=>hr.wz (w':=w') hz hbB h.le;clear hE ak aw hx g1 g2 g3 g4 g5 g6 g7 gp ax ay ao h;go_enter func103,ntmps103;go_wp2_with fail
 generalize w.alloc _=w1 at *;generalize aM:w.heap.size=bs at *;clear aM;have k1:=x0.bx.cell 0 _ rfl;refine(Om w1 b B A c l h1 x.name gd).mono ?_;rintro e w2 ⟨rfl,⟨A2,c2,h2⟩,hz⟩;have Z2:=Z1.trans hz;have x1:=x0.wz hz ad gm;obtain⟨l2,I⟩:=ia (l++tx x.name);rw[I]at h2;have:l2.length<=300100:=by rw[<-I,AR];omega
 have aN:=AB I;have aO:=x1.bx.cell 1 _ rfl;clear I h1 hz x0;clear k1;go_upto_if 11 with fail;go_cut [] from 12 to 15 (λwx=>(∃A3 c3,WB wx b B A3 c3 (l2++Var.put (DC kb)))/\Wz b B w2 wx);case first=>
  cases kb with
  | true=>
    (go_wp2_with fail);refine(EF w2 b B A2 c2 l2 h2 1 gm gd).mono ?_;rintro e w3 ⟨rfl,h3,hz⟩;(go_wp2_with fail);go_meet;exact⟨h3,hz⟩
  | false=>
    (go_wp2_with fail);refine(EF w2 b B A2 c2 l2 h2 0 gm gd).mono ?_;rintro e w3 ⟨rfl,h3,hz⟩;(go_wp2_with fail);go_meet;exact⟨h3,hz⟩
 case rest=>
 obtain⟨⟨A3,c3,h3⟩,hz⟩:=hcut;have Z3:=Z2.trans hz;have x2:=x1.wz hz ad gm;obtain⟨l3,O⟩:=ia (l2++Var.put (DC kb));rw[O]at h3;have:l3.length<=300200:=by rw[<-O,AR];omega
 have aP:=AB O;have aQ:=x2.bx.cell 2 _ rfl;clear O h2 hz x1 aO;go_wp2_with fail
 refine(EF wc b B A3 c3 l3 h3 x.seq.toNat ae gd).mono ?_;rintro e w4 ⟨rfl,⟨A4,c4,h4⟩,hz⟩;have Z4:=Z3.trans hz;have x3:=x2.wz hz ad gm;obtain⟨l4,T⟩:=ia (l3++Var.put x.seq.toNat);rw[T]at h4;have:l4.length<=300300:=by rw[<-T,AR];omega
 have aR:=AB T;have aS:=x3.bx.cell 3 _ rfl;clear T h3 hz x2;clear aQ;go_wp2_with fail
 refine(EF w4 b B A4 c4 l4 h4 rw G gd).mono ?_;rintro e w5 ⟨rfl,⟨A5,c5,h5⟩,hz⟩;have Z5:=Z4.trans hz;have x4:=x3.wz hz ad gm;obtain⟨l5,V⟩:=ia (l4++Var.put rw);rw[V]at h5;have:l5.length<=300400:=by rw[<-V,AR];omega
 have aT:=AB V;have aU:=x4.bx.cell 4 _ rfl;clear V h4 hz x3;clear aS aF aG;go_wp2_with fail
 refine(EF w5 b B A5 c5 l5 h5 x.sch.toNat af gd).mono ?_;rintro e w6 ⟨rfl,⟨A6,c6,h6⟩,hz⟩;have Z6:=Z5.trans hz;have x5:=x4.wz hz ad gm;obtain⟨l6,Z⟩:=ia (l5++Var.put x.sch.toNat);rw[Z]at h6;have:l6.length<=300500:=by rw[<-Z,AR];omega
 have aV:=AB Z;have aW:=x5.bx.cell 5 _ rfl;clear Z h5 hz x4;clear aU aH aI;go_wp2_with fail
 refine(EF w6 b B A6 c6 l6 h6 x.stats.length am gd).mono ?_;rintro e w7 ⟨rfl,⟨A7,c7,h7⟩,hz⟩;have Z7:=Z6.trans hz;have x6:=x5.wz hz ad gm;obtain⟨l7,aa⟩:=ia (l6++Var.put x.stats.length);rw[aa]at h7;have:l7.length<=300600:=by rw[<-aa,AR];omega
 have aX:=AB aa;have:=x6.bx.cell 5 _ rfl;clear aa h6 hz x5;clear aW aJ aK p1 p2 p3 p4 p5 p6 G ae af am;have aY:=aL _ Z7;have az:B<=w7.heap.size:=h7.le;have:b<w7.heap.size:=h7.z;go_wp2_with fail
 go_loopw [39] (λiv wr=>∃(k:Nat) (Ak:Option Addr) (ck:Nat),iv = io k/\k<=x.stats.length/\WB wr b B Ak ck (l7++CQ (x.stats.take k))/\Wz b B w7 wr) (λiv _=>x.stats.length-(intOf iv).toNat);case atStart=>exact⟨0,A7,c7,rfl,AU _,by simpa [CQ]using h7,Wz.refl _ _ _⟩
 case round=>
  obtain⟨k,Ak,ck,rfl,hk,hW,ag⟩:=hrel;have ap:=aY.wz ag hbB az;have:=H8.o;by_cases ai:k<x.stats.length
  .have aj:x.stats.getD k default∈x.stats:=B9 ai;have aq:=H7.o _ aj;have ar:CQ (x.stats.take (k+1))=CQ (x.stats.take k)++E2 (x.stats.getD k default):=FD ai;have:(l7++CQ (x.stats.take k)).length<=400000:=by
    have:=EP (f:=E2) (l:=x.stats.take k) (m:=178) (λs hs=>LD (H7.o s (List.mem_of_mem_take hs)).2);have h9:(x.stats.take k).length<=8:=by rw[BN];omega
    have:(x.stats.take k).length * 178<=8 * 178:=Cc _ h9;unfold CQ;rw[AR];omega
   obtain⟨gb,off,au,bh,ab⟩:=ap.stA ai;obtain⟨s,hs⟩:=ia (x.stats.getD k default);obtain⟨f0,f1,f2,f3,f4,f5,f6,f7,f8,f9⟩:=ab s hs;rw[hs]at aq ar;have a0:=AB ar;have aB:=aq.2;have av:=hI wr (.cells #[io s.rows.toInt,io s.nulls.toInt,.bool s.som,.bool s.high,ip s.mn.kind.toNat,io s.mn.n.toInt,.string s.mn.s,ip s.mx.kind.toNat,io s.mx.n.toInt,.string s.mx.s] 201);have aC:=hW.keep av;have aD:Wz b B w7 _:=ag.trans (.of av);have:=AB au;clear hs aj aq ar ap ab av;rw[au];clear au;(go_wp2_with fail);refine(Up _ b B Ak ck _ aC s aB gd).mono ?_;rintro e w9 ⟨rfl,⟨A9,c9,h9⟩,hz⟩;rw[Az,<-a0.o]at h9;have ah:=gR h9 (aD.trans hz);clear h9 hz aD aC hW ag f0 f1 f2 f3 f4 f5 f6 f7 f8 f9;(go_wp2_with fail);go_roundw;case rel=>exact⟨k+1,A9,c9,by go_num,ai,ah.o.1,ah.o.2⟩
   case measure=>have:=H8.o;simp[intOf];omega
  have aE:k=x.stats.length:=gd;have ah:ga (WB wr b B Ak ck (l7++CQ x.stats)/\Wz b B w wr):=AB ⟨by rw[aE,E8]at hW;exact hW,Z7.trans ag⟩;clear hW ag ap aE;go_wp2_with fail
  go_end0;refine⟨rfl,⟨Ak,ck,?_⟩,ah.o.2⟩;rw[<-Az,aN.o,<-Az,aP.o,<-Az,aR.o,<-Az,aT.o,<-Az,aV.o,<-Az,aX.o];exact ah.o.1
theorem Us (w s):Calls prog 160 #[.string s] w λe w'=>e = .returned (.bool (Aq s))/\Below w.heap.size w w':=by
 by_cases h1:s.size<1
 .rw[Kd h1];have t1:=gG s.size 1;clear h1;go_enter func160,ntmps160;go_wp2_with fail
  go_ret;exact⟨rfl,AC _ _⟩
 have t1:=gH s.size 1;by_cases h2:24<s.size
 .rw[Ga h2];have t2:=gG 24 s.size;clear h1 h2;go_enter func160,ntmps160;go_wp2_with fail
  go_ret;exact⟨rfl,AC _ _⟩
 have t2:=gH 24 s.size;rw[Ke gd gd];have:s.size<=24:=gd;obtain⟨res,I⟩:=ib (Bx s (BE s) s.size 0);rw[<-I];have O:=AB I;clear h1 h2 I;go_enter func160,ntmps160;go_wp2_with fail
 go_loopw [4] (λ_ w'=>∃(pos b:Nat),w'=w.iter s pos/\ga (Bx s (BE s) b pos=res)/\s.size<=pos+b) (λ_ w'=>s.size-w'.iterPos w.heap.size);case atStart=>exact⟨0,s.size,rfl,AB O.o.symm,gd⟩
 case round=>
  obtain⟨pos,b,rfl,hc,hb⟩:=hrel;by_cases hp:pos<s.size
  .have V:∀ty,(Instr.next (iq w.heap.size 0) true ty).run prog (w.iter s pos) = .ok (.tuple #[.bool true,io pos,.int .i32 (sgn s pos:Int)]) (w.iter s (pos+wid s pos)):=λty=>run_next_any w s pos ty hp;have Z:=F8 s pos hp;have HM:=AB (show s.size-(pos+wid s pos)<s.size-pos by omega);have HP:=AB hp;have HB:=AB hb;clear hb;generalize T:sgn s pos=c at *;have G:=AB T;clear T Z hp;rcases(show(c<45)\/(c=45)\/(c=46)\/(c=47)\/(48<=c/\c<=57)\/(58<=c/\c<=96)\/(97<=c/\c<=122)\/(123<=c)by omega)with g|g|g|g|g|g|g|g
   .have a1:=gJ 97 c;have a2:=gI c 122;have a3:=gJ 48 c;have a4:=gI c 57;have a5:=gL c 47;have a6:=gL c 45;have HO:ga (BE s pos=false):=AB (by rw[CJ s pos c G.o];exact AG gd);have HG:=AB g;clear g;(go_wp2_with fail);go_ret;have he:=hc.o;rw[Dm s _ b pos HP.o HB.o HO.o]at he;exact⟨by rw[<-he];rfl,(AC _ _).alloc (AD _) _⟩
   .have a1:=gJ 97 c;have a2:=gI c 122;have a3:=gJ 48 c;have a4:=gI c 57;have a5:=gL c 47;have a6:=gK c 45;have HO:ga (BE s pos=true):=AB (by rw[CJ s pos c G.o];exact AF gd);have HG:=AB g;clear g;(go_wp2_with fail);go_roundw;case rel=>
     obtain⟨b',h1,h2⟩:=EB s _ b pos HP.o HB.o HO.o;exact⟨_,b',rfl,AB (h1▸hc.o),h2⟩
    case measure=>simpa using HM.o
   .have a1:=gJ 97 c;have a2:=gI c 122;have a3:=gJ 48 c;have a4:=gI c 57;have a5:=gL c 47;have a6:=gL c 45;have HO:ga (BE s pos=false):=AB (by rw[CJ s pos c G.o];exact AG gd);have HG:=AB g;clear g;(go_wp2_with fail);go_ret;have he:=hc.o;rw[Dm s _ b pos HP.o HB.o HO.o]at he;exact⟨by rw[<-he];rfl,(AC _ _).alloc (AD _) _⟩
   .have a1:=gJ 97 c;have a2:=gI c 122;have a3:=gJ 48 c;have a4:=gI c 57;have a5:=gK c 47;have a6:=gL c 45;have HO:ga (BE s pos=true):=AB (by rw[CJ s pos c G.o];exact AF gd);have HG:=AB g;clear g;(go_wp2_with fail);go_roundw;case rel=>
     obtain⟨b',h1,h2⟩:=EB s _ b pos HP.o HB.o HO.o;exact⟨_,b',rfl,AB (h1▸hc.o),h2⟩
    case measure=>simpa using HM.o
   .have a1:=gJ 97 c;have a2:=gI c 122;have a3:=gI 48 c;have a4:=gI c 57;have a5:=gL c 47;have a6:=gL c 45;have HO:ga (BE s pos=true):=AB (by rw[CJ s pos c G.o];exact AF gd);have HG:=AB g;clear g;(go_wp2_with fail);go_roundw;case rel=>
     obtain⟨b',h1,h2⟩:=EB s _ b pos HP.o HB.o HO.o;exact⟨_,b',rfl,AB (h1▸hc.o),h2⟩
    case measure=>simpa using HM.o
   .have a1:=gJ 97 c;have a2:=gI c 122;have a3:=gI 48 c;have a4:=gJ c 57;have a5:=gL c 47;have a6:=gL c 45;have HO:ga (BE s pos=false):=AB (by rw[CJ s pos c G.o];exact AG gd);have HG:=AB g;clear g;(go_wp2_with fail);go_ret;have he:=hc.o;rw[Dm s _ b pos HP.o HB.o HO.o]at he;exact⟨by rw[<-he];rfl,(AC _ _).alloc (AD _) _⟩
   .have a1:=gI 97 c;have a2:=gI c 122;have a3:=gI 48 c;have a4:=gJ c 57;have a5:=gL c 47;have a6:=gL c 45;have HO:ga (BE s pos=true):=AB (by rw[CJ s pos c G.o];exact AF gd);have HG:=AB g;clear g;(go_wp2_with fail);go_roundw;case rel=>
     obtain⟨b',h1,h2⟩:=EB s _ b pos HP.o HB.o HO.o;exact⟨_,b',rfl,AB (h1▸hc.o),h2⟩
    case measure=>simpa using HM.o
   have a1:=gI 97 c;have a2:=gJ c 122;have a3:=gI 48 c;have a4:=gJ c 57;have a5:=gL c 47;have a6:=gL c 45;have HO:ga (BE s pos=false):=AB (by rw[CJ s pos c G.o];exact AG gd);have HG:=AB g;clear g;(go_wp2_with fail);go_ret;have he:=hc.o;rw[Dm s _ b pos HP.o HB.o HO.o]at he;exact⟨by rw[<-he];rfl,(AC _ _).alloc (AD _) _⟩
  have V:∀ty,(Instr.next (iq w.heap.size 0) true ty).run prog (w.iter s pos)=_:=λty=>run_next_end w s pos ty hp;have he:=hc.o;rw[GV s _ b pos hp]at he;have HE:=AB he;clear he;go_wp2_with fail
  go_ret;exact⟨by rw[<-HE.o];rfl,(AC _ _).alloc (AD _) _⟩
theorem Uv (w c):Calls prog 237 #[.agg #[ip c.kind.toNat,io c.n,.string c.s]] w λe w'=>∃v,e = .returned (.tuple #[v,io (C9 c:Int)])/\Below w.heap.size w w':=by
 have I:c.kind.toNat<256:=c.kind.toNat_lt;obtain⟨k,hk⟩:=ia c.kind.toNat;obtain⟨n,hn⟩:=ia c.n;have G:=Ut hk hn;have hE:emp c.s=c.s.toList.isEmpty:=rfl;have hL:=Uu (s:=c.s);rw[hk]at I;obtain⟨s,hs⟩:=ia c.s;obtain⟨er,T⟩:=ia (C9 c);rw[hk,hn,hs,T];rw[hs,T]at G;rw[hs]at hE hL;clear hk hn hs T;have:=hI w (.cells #[ip k,io n,.string s] 199);rcases(show k=0\/k=1\/k=2\/k=3\/3<k by omega)with rfl|rfl|rfl|rfl|h3
 .cases he:emp s with
  | true=>
    by_cases h0:n=0
    .by_cases O:64<s.size
     .exact absurd (hL he) gd
     obtain rfl:er=0:=by rw[G];rw[AE gd,AE (by rw[he,h0];simp),AE O]
     have t1:s.toList.isEmpty=true:=by rw[<-hE];exact he
     have t2:(n==0)=true:=by rw[Ap];exact h0
     have t3:=gI s.size 64;clear G hE hL I;go_enter func237,ntmps237;(go_wp2_with fail);go_ret2;exact⟨_,rfl,hI w _⟩
    by_cases h1:n=1
    .obtain rfl:er=1:=by rw[G];rw[AE gd,AJ (.inr (.inl ⟨gm,gm,h0⟩))]
     have t1:s.toList.isEmpty=true:=by rw[<-hE];exact he
     have t2:(n==0)=false:=by rw[AQ];exact h0
     have t4:(n==1)=true:=by rw[Ap];exact h1
     clear G hE hL I;go_enter func237,ntmps237;(go_wp2_with fail);go_ret2;exact⟨_,rfl,hI w _⟩
    obtain rfl:er=1:=by rw[G];rw[AE gd,AJ (.inr (.inl ⟨gm,gm,h0⟩))]
    have t1:s.toList.isEmpty=true:=by rw[<-hE];exact he
    have t2:(n==0)=false:=by rw[AQ];exact h0
    have t4:(n==1)=false:=by rw[AQ];exact h1
    clear G hE hL I;go_enter func237,ntmps237;(go_wp2_with fail);go_ret2;exact⟨_,rfl,hI w _⟩
  | false=>
    by_cases h0:n=0
    .by_cases O:64<s.size
     .obtain rfl:er=1:=by rw[G];rw[AE gd,AJ (.inl ⟨gm,he⟩)]
      have t1:s.toList.isEmpty=false:=by rw[<-hE];exact he
      have t2:(n==0)=true:=by rw[Ap];exact h0
      have t3:=gJ s.size 64;clear G hE hL I;go_enter func237,ntmps237;(go_wp2_with fail);go_ret2;exact⟨_,rfl,hI w _⟩
     obtain rfl:er=1:=by rw[G];rw[AE gd,AJ (.inl ⟨gm,he⟩)]
     have t1:s.toList.isEmpty=false:=by rw[<-hE];exact he
     have t2:(n==0)=true:=by rw[Ap];exact h0
     have t3:=gI s.size 64;clear G hE hL I;go_enter func237,ntmps237;(go_wp2_with fail);go_ret2;exact⟨_,rfl,hI w _⟩
    by_cases h1:n=1
    .obtain rfl:er=1:=by rw[G];rw[AE gd,AJ (.inl ⟨gm,he⟩)]
     have t1:s.toList.isEmpty=false:=by rw[<-hE];exact he
     have t2:(n==0)=false:=by rw[AQ];exact h0
     have t4:(n==1)=true:=by rw[Ap];exact h1
     clear G hE hL I;go_enter func237,ntmps237;(go_wp2_with fail);go_ret2;exact⟨_,rfl,hI w _⟩
    obtain rfl:er=1:=by rw[G];rw[AE gd,AJ (.inl ⟨gm,he⟩)]
    have t1:s.toList.isEmpty=false:=by rw[<-hE];exact he
    have t2:(n==0)=false:=by rw[AQ];exact h0
    have t4:(n==1)=false:=by rw[AQ];exact h1
    clear G hE hL I;go_enter func237,ntmps237;(go_wp2_with fail);go_ret2;exact⟨_,rfl,hI w _⟩
 .cases he:emp s with
  | true=>
    by_cases h0:n=0
    .by_cases O:64<s.size
     .exact absurd (hL he) gd
     obtain rfl:er=0:=by rw[G];rw[AE gd,AE (by rw[he,h0];simp),AE O]
     have t1:s.toList.isEmpty=true:=by rw[<-hE];exact he
     have t2:(n==0)=true:=by rw[Ap];exact h0
     have t3:=gI s.size 64;clear G hE hL I;go_enter func237,ntmps237;(go_wp2_with fail);go_ret2;exact⟨_,rfl,hI w _⟩
    by_cases h1:n=1
    .obtain rfl:er=0:=by rw[G];rw[AE gd,AE (by rw[he];simp),AE (by have:=hL he;omega)]
     have t1:s.toList.isEmpty=true:=by rw[<-hE];exact he
     have t2:(n==0)=false:=by rw[AQ];exact h0
     have t4:(n==1)=true:=by rw[Ap];exact h1
     clear G hE hL I;go_enter func237,ntmps237;(go_wp2_with fail);go_ret2;exact⟨_,rfl,hI w _⟩
    obtain rfl:er=0:=by rw[G];rw[AE gd,AE (by rw[he];simp),AE (by have:=hL he;omega)]
    have t1:s.toList.isEmpty=true:=by rw[<-hE];exact he
    have t2:(n==0)=false:=by rw[AQ];exact h0
    have t4:(n==1)=false:=by rw[AQ];exact h1
    clear G hE hL I;go_enter func237,ntmps237;(go_wp2_with fail);go_ret2;exact⟨_,rfl,hI w _⟩
  | false=>
    by_cases h0:n=0
    .by_cases O:64<s.size
     .obtain rfl:er=1:=by rw[G];rw[AE gd,AJ (.inl ⟨gm,he⟩)]
      have t1:s.toList.isEmpty=false:=by rw[<-hE];exact he
      have t2:(n==0)=true:=by rw[Ap];exact h0
      have t3:=gJ s.size 64;clear G hE hL I;go_enter func237,ntmps237;(go_wp2_with fail);go_ret2;exact⟨_,rfl,hI w _⟩
     obtain rfl:er=1:=by rw[G];rw[AE gd,AJ (.inl ⟨gm,he⟩)]
     have t1:s.toList.isEmpty=false:=by rw[<-hE];exact he
     have t2:(n==0)=true:=by rw[Ap];exact h0
     have t3:=gI s.size 64;clear G hE hL I;go_enter func237,ntmps237;(go_wp2_with fail);go_ret2;exact⟨_,rfl,hI w _⟩
    by_cases h1:n=1
    .obtain rfl:er=1:=by rw[G];rw[AE gd,AJ (.inl ⟨gm,he⟩)]
     have t1:s.toList.isEmpty=false:=by rw[<-hE];exact he
     have t2:(n==0)=false:=by rw[AQ];exact h0
     have t4:(n==1)=true:=by rw[Ap];exact h1
     clear G hE hL I;go_enter func237,ntmps237;(go_wp2_with fail);go_ret2;exact⟨_,rfl,hI w _⟩
    obtain rfl:er=1:=by rw[G];rw[AE gd,AJ (.inl ⟨gm,he⟩)]
    have t1:s.toList.isEmpty=false:=by rw[<-hE];exact he
    have t2:(n==0)=false:=by rw[AQ];exact h0
    have t4:(n==1)=false:=by rw[AQ];exact h1
    clear G hE hL I;go_enter func237,ntmps237;(go_wp2_with fail);go_ret2;exact⟨_,rfl,hI w _⟩
 .cases he:emp s with
  | true=>
    by_cases h0:n=0
    .by_cases O:64<s.size
     .exact absurd (hL he) gd
     obtain rfl:er=0:=by rw[G];rw[AE gd,AE (by rw[he,h0];simp),AE O]
     have t1:s.toList.isEmpty=true:=by rw[<-hE];exact he
     have t2:(n==0)=true:=by rw[Ap];exact h0
     have t3:=gI s.size 64;clear G hE hL I;go_enter func237,ntmps237;(go_wp2_with fail);go_ret2;exact⟨_,rfl,hI w _⟩
    by_cases h1:n=1
    .obtain rfl:er=0:=by rw[G];rw[AE gd,AE (by rw[he];simp;omega),AE (by have:=hL he;omega)]
     have t1:s.toList.isEmpty=true:=by rw[<-hE];exact he
     have t2:(n==0)=false:=by rw[AQ];exact h0
     have t4:(n==1)=true:=by rw[Ap];exact h1
     clear G hE hL I;go_enter func237,ntmps237;(go_wp2_with fail);go_ret2;exact⟨_,rfl,hI w _⟩
    obtain rfl:er=1:=by rw[G];rw[AE gd,AJ (.inr (.inr ⟨rfl,h0,h1⟩))]
    have t1:s.toList.isEmpty=true:=by rw[<-hE];exact he
    have t2:(n==0)=false:=by rw[AQ];exact h0
    have t4:(n==1)=false:=by rw[AQ];exact h1
    clear G hE hL I;go_enter func237,ntmps237;(go_wp2_with fail);go_ret2;exact⟨_,rfl,hI w _⟩
  | false=>
    by_cases h0:n=0
    .by_cases O:64<s.size
     .obtain rfl:er=1:=by rw[G];rw[AE gd,AJ (.inl ⟨gm,he⟩)]
      have t1:s.toList.isEmpty=false:=by rw[<-hE];exact he
      have t2:(n==0)=true:=by rw[Ap];exact h0
      have t3:=gJ s.size 64;clear G hE hL I;go_enter func237,ntmps237;(go_wp2_with fail);go_ret2;exact⟨_,rfl,hI w _⟩
     obtain rfl:er=1:=by rw[G];rw[AE gd,AJ (.inl ⟨gm,he⟩)]
     have t1:s.toList.isEmpty=false:=by rw[<-hE];exact he
     have t2:(n==0)=true:=by rw[Ap];exact h0
     have t3:=gI s.size 64;clear G hE hL I;go_enter func237,ntmps237;(go_wp2_with fail);go_ret2;exact⟨_,rfl,hI w _⟩
    by_cases h1:n=1
    .obtain rfl:er=1:=by rw[G];rw[AE gd,AJ (.inl ⟨gm,he⟩)]
     have t1:s.toList.isEmpty=false:=by rw[<-hE];exact he
     have t2:(n==0)=false:=by rw[AQ];exact h0
     have t4:(n==1)=true:=by rw[Ap];exact h1
     clear G hE hL I;go_enter func237,ntmps237;(go_wp2_with fail);go_ret2;exact⟨_,rfl,hI w _⟩
    obtain rfl:er=1:=by rw[G];rw[AE gd,AJ (.inl ⟨gm,he⟩)]
    have t1:s.toList.isEmpty=false:=by rw[<-hE];exact he
    have t2:(n==0)=false:=by rw[AQ];exact h0
    have t4:(n==1)=false:=by rw[AQ];exact h1
    clear G hE hL I;go_enter func237,ntmps237;(go_wp2_with fail);go_ret2;exact⟨_,rfl,hI w _⟩
 .cases he:emp s with
  | true=>
    by_cases h0:n=0
    .by_cases O:64<s.size
     .exact absurd (hL he) gd
     obtain rfl:er=0:=by rw[G];rw[AE gd,AE (by rw[he,h0];simp),AE O]
     have t1:s.toList.isEmpty=true:=by rw[<-hE];exact he
     have t2:(n==0)=true:=by rw[Ap];exact h0
     have t3:=gI s.size 64;clear G hE hL I;go_enter func237,ntmps237;(go_wp2_with fail);go_ret2;exact⟨_,rfl,hI w _⟩
    by_cases h1:n=1
    .obtain rfl:er=1:=by rw[G];rw[AE gd,AJ (.inr (.inl ⟨gm,gm,h0⟩))]
     have t1:s.toList.isEmpty=true:=by rw[<-hE];exact he
     have t2:(n==0)=false:=by rw[AQ];exact h0
     have t4:(n==1)=true:=by rw[Ap];exact h1
     clear G hE hL I;go_enter func237,ntmps237;(go_wp2_with fail);go_ret2;exact⟨_,rfl,hI w _⟩
    obtain rfl:er=1:=by rw[G];rw[AE gd,AJ (.inr (.inl ⟨gm,gm,h0⟩))]
    have t1:s.toList.isEmpty=true:=by rw[<-hE];exact he
    have t2:(n==0)=false:=by rw[AQ];exact h0
    have t4:(n==1)=false:=by rw[AQ];exact h1
    clear G hE hL I;go_enter func237,ntmps237;(go_wp2_with fail);go_ret2;exact⟨_,rfl,hI w _⟩
  | false=>
    by_cases h0:n=0
    .by_cases O:64<s.size
     .obtain rfl:er=5:=by rw[G];rw[AE gd,AE (by rw[he,h0];simp),AJ O]
      have t1:s.toList.isEmpty=false:=by rw[<-hE];exact he
      have t2:(n==0)=true:=by rw[Ap];exact h0
      have t3:=gJ s.size 64;clear G hE hL I;go_enter func237,ntmps237;(go_wp2_with fail);go_ret2;exact⟨_,rfl,hI w _⟩
     obtain rfl:er=0:=by rw[G];rw[AE gd,AE (by rw[he,h0];simp),AE O]
     have t1:s.toList.isEmpty=false:=by rw[<-hE];exact he
     have t2:(n==0)=true:=by rw[Ap];exact h0
     have t3:=gI s.size 64;clear G hE hL I;go_enter func237,ntmps237;(go_wp2_with fail);go_ret2;exact⟨_,rfl,hI w _⟩
    by_cases h1:n=1
    .obtain rfl:er=1:=by rw[G];rw[AE gd,AJ (.inr (.inl ⟨gm,gm,h0⟩))]
     have t1:s.toList.isEmpty=false:=by rw[<-hE];exact he
     have t2:(n==0)=false:=by rw[AQ];exact h0
     have t4:(n==1)=true:=by rw[Ap];exact h1
     clear G hE hL I;go_enter func237,ntmps237;(go_wp2_with fail);go_ret2;exact⟨_,rfl,hI w _⟩
    obtain rfl:er=1:=by rw[G];rw[AE gd,AJ (.inr (.inl ⟨gm,gm,h0⟩))]
    have t1:s.toList.isEmpty=false:=by rw[<-hE];exact he
    have t2:(n==0)=false:=by rw[AQ];exact h0
    have t4:(n==1)=false:=by rw[AQ];exact h1
    clear G hE hL I;go_enter func237,ntmps237;(go_wp2_with fail);go_ret2;exact⟨_,rfl,hI w _⟩
 obtain rfl:er=10:=by rw[G,AJ h3]
 have:=gL k 0;have t1:=gL k 1;have t2:=gL k 2;have t3:=gL k 3;clear G hE hL I;go_enter func237,ntmps237;go_wp2_with fail
 go_ret2;exact⟨_,rfl,hI w _⟩
theorem Oo (w x):Calls prog 200 #[.agg #[ip x.kind.toNat,io x.n.toInt,.string x.s]] w (FQ w (.bool (CZ x))):=by
 obtain⟨er,G⟩:=ia (C9 x.cl);have hB:CZ x=(decide (er=0) && !decide (x.kind.toNat=0)):=by unfold CZ;rw[G]
 have HV:∀w,Calls prog 237 #[.agg #[ip x.kind.toNat,io x.n.toInt,.string x.s]] w λe w'=>∃v,e = .returned (.tuple #[v,io er])/\Below w.heap.size w w':=λw=>by rw[<-G];exact Uv w x.cl
 rw[hB];have T:x.kind.toNat<256:=x.kind.toNat_lt;obtain⟨k,hk⟩:=ia x.kind.toNat;rw[hk]at HV T ⊢;generalize x.n.toInt=n at *;generalize x.s=s at *;obtain⟨x0,O⟩:=gZ w #[ip k,io n,.string s] 199;obtain⟨R,hR⟩:=ia (decide (er=0) && !decide (k=0));rw[hR];clear hB G hk;go_enter func200,ntmps200;go_wp2_with fail
 refine(HV _).mono ?_;rintro e w2 ⟨v,rfl,hb2⟩;have:=(x0.keep hb2 x0.z).cell 0 _ rfl;have I:=AM O O.size hb2;by_cases h0:er=0
 .have t0:=gK er 0;by_cases h1:k=0
  .have t1:=gO k 0;obtain rfl:R=false:=by rw[<-hR,h0,h1];rfl
   clear hR h0 h1;(go_wp2_with fail);go_ret;exact⟨rfl,I⟩
  have t1:=gM k 0;obtain rfl:R=true:=by rw[<-hR,h0,AG h1];rfl
  clear hR h0 h1;go_wp2_with fail
  go_ret;exact⟨rfl,I⟩
 have t0:=gL er 0;obtain rfl:R=false:=by rw[<-hR,AG h0];rfl
 clear hR h0;go_wp2_with fail
 go_ret;exact⟨rfl,I⟩
theorem Uw (w s):Calls prog 161 #[.agg #[io s.rows.toInt,io s.nulls.toInt,.bool s.som,.bool s.high,ip s.mn.kind.toNat,io s.mn.n.toInt,.string s.mn.s,ip s.mx.kind.toNat,io s.mx.n.toInt,.string s.mx.s]] w (FQ w (.bool (Dh s))):=by
 rw[Ot];have H1:=λw=>Oo w s.mn;have H2:=λw=>Oo w s.mx;generalize CZ s.mn=b1 at *;generalize CZ s.mx=b2 at *;obtain⟨R,hR⟩:=ia (Hr s.rows.toInt s.nulls.toInt s.som s.high b1 b2 (DM s.mn.kind.toNat s.mn.n.toInt s.mn.s) (DM s.mx.kind.toNat s.mx.n.toInt s.mx.s) s.mn.kind.toNat s.mx.kind.toNat);rw[hR];have:s.mn.kind.toNat<256:=s.mn.kind.toNat_lt;have:s.mx.kind.toNat<256:=s.mx.kind.toNat_lt;generalize s.rows.toInt=rw at *;generalize s.nulls.toInt=nl at *;generalize s.som=som at *;generalize s.high=high at *;generalize s.mn.kind.toNat=k1 at *;generalize s.mn.n.toInt=n1 at *;generalize s.mn.s=s1 at *;generalize s.mx.kind.toNat=k2 at *;generalize s.mx.n.toInt=n2 at *;generalize s.mx.s=s2 at *;unfold Hr at hR;by_cases h1:nl<0
 .obtain rfl:R=false:=by rw[<-hR];simp[h1]
  have t1:decide (nl<0)=true:=AF h1;clear hR h1;go_enter func161,ntmps161;go_wp2_with fail
  go_ret;exact⟨rfl,hI w _⟩
 have t1:decide (nl<0)=false:=AG h1;by_cases h2:rw<nl
 .obtain rfl:R=false:=by rw[<-hR];simp[h1,h2]
  have t2:decide (rw<nl)=true:=AF h2;clear hR h1 h2;go_enter func161,ntmps161;go_wp2_with fail
  go_ret;exact⟨rfl,hI w _⟩
 have t2:decide (rw<nl)=false:=AG h2;by_cases h3:(256:Int)<rw
 .obtain rfl:R=false:=by rw[<-hR];simp[h1,h2,h3]
  have t3:decide ((256:Int)<rw)=true:=AF h3;clear hR h1 h2 h3;go_enter func161,ntmps161;go_wp2_with fail
  go_ret;exact⟨rfl,hI w _⟩
 have t3:decide ((256:Int)<rw)=false:=AG h3;rw[AE h1,AE h2,AE h3]at hR;obtain⟨O,T⟩:=gZ w #[io rw,io nl,.bool som,.bool high,ip k1,io n1,.string s1,ip k2,io n2,.string s2] 201;clear h1 h2 h3;by_cases h4:nl<rw
 .have t4:decide (nl<rw)=true:=AF h4;cases som with
  | true=>
    cases high with
    | false=>
      replace hR:(b1&&DM k2 n2 s2)=R:=by rw[<-hR];simp[h4]
      clear h4;go_enter func161,ntmps161;(go_wp2_with fail);refine(H1 _).mono ?_;rintro e w2 ⟨rfl,hb2⟩;have G:=O.keep hb2 O.z;have I:=AM T T.size hb2;have c7:=G.cell 7 _ rfl;have c8:=G.cell 8 _ rfl;have c9:=G.cell 9 _ rfl;cases b1 with
      | false=>
        obtain rfl:R=false:=by rw[<-hR];simp
        clear hR;(go_wp2_with fail);go_ret;exact⟨rfl,I⟩
      | true=>
        simp only[CV]at hR;have HR:=AB hR;clear hR;go_wp2_with fail
        all_goals go_ret
        all_goals refine⟨?_,I⟩
        all_goals (rw[<-HR.o];simp[DM, *])
    | true=>
      replace hR:(b1&&(b2&&decide (k1=k2)))=R:=by rw[<-hR];simp[h4]
      clear h4;go_enter func161,ntmps161;(go_wp2_with fail);refine(H1 _).mono ?_;rintro e w2 ⟨rfl,hb2⟩;have G:=O.keep hb2 O.z;have I:=AM T T.size hb2;have c7:=G.cell 7 _ rfl;have c8:=G.cell 8 _ rfl;have c9:=G.cell 9 _ rfl;cases b1 with
      | false=>
        obtain rfl:R=false:=by rw[<-hR];simp
        clear hR;(go_wp2_with fail);go_ret;exact⟨rfl,I⟩
      | true=>
        simp only[CV]at hR;(go_wp2_with fail);refine(H2 _).mono ?_;rintro e w3 ⟨rfl,hb3⟩;have aa:=G.keep hb3 G.z;have Z:=AM I I.size hb3;obtain⟨-,-,-,-,d4,-,-,d7⟩:=aa.c8;clear c7 c8 c9;cases b2 with
        | false=>
          obtain rfl:R=false:=by rw[<-hR];simp
          clear hR;(go_wp2_with fail);go_ret;exact⟨rfl,Z⟩
        | true=>
          simp only[CV]at hR;by_cases V:k1=k2
          .have t7:=gK k1 k2;have t8:=gK k2 k1;obtain rfl:R=true:=by rw[<-hR];exact AF V
           clear V hR;(go_wp2_with fail);go_ret;exact⟨rfl,Z⟩
          have t7:=gL k1 k2;have t8:=gL k2 k1;obtain rfl:R=false:=by rw[<-hR];exact AG V
          clear V hR;(go_wp2_with fail);go_ret;exact⟨rfl,Z⟩
  | false=>
    obtain rfl:R=false:=by rw[<-hR];simp[h4]
    clear hR h4;go_enter func161,ntmps161;(go_wp2_with fail);go_ret;exact⟨rfl,hI w _⟩
 have t4:decide (nl<rw)=false:=AG h4;cases som with
 | true=>
   obtain rfl:R=false:=by rw[<-hR];simp[h4]
   clear hR h4;go_enter func161,ntmps161;(go_wp2_with fail);go_ret;exact⟨rfl,hI w _⟩
 | false=>
   cases high with
   | true=>
     obtain rfl:R=false:=by rw[<-hR];simp[h4]
     clear hR h4;go_enter func161,ntmps161;(go_wp2_with fail);go_ret;exact⟨rfl,hI w _⟩
   | false=>
     replace hR:(DM k1 n1 s1&&DM k2 n2 s2)=R:=by rw[<-hR];simp[h4]
     rw[<-hR];clear hR h4;go_enter func161,ntmps161;go_wp2_with fail
     all_goals go_ret
     all_goals refine⟨?_,hI w _⟩
     all_goals simp[DM, *]
