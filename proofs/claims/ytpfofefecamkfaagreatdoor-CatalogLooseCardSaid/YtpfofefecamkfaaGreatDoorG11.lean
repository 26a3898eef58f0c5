/- WHAT SERVES THE TABLES' STATEMENTS, part 11: EnOp, FrameE, EnMg, EnMe, O0, ObP, ObN, ObIt, ObS, ObC. No statement of the seat is proved here. -/
import Derived.Test.YtpfofefecamkfaaGreatDoorG10
import Derived.WalkKit
import Derived.WalkSpells
import Derived.WalkLawsBesides
import Derived.Deep.Draws
import Derived.Deep.AppendLies
import Derived.Maps.AppendAt
import Derived.BigQuiet
import Derived.Deep.QuietTactic
import Derived.Deep.RegionWith
import Derived.Handy
import Derived.Lib.DecodeN
import Derived.Lib.RuneCountTail
import Derived.Still
import Derived.StillTail
import Derived.Laws.ResultCell
import Derived.Deep.OwnRows
import Derived.Deep.CutRange
import Derived.Deep.RegionHeld3
import Init.Data.List.Lemmas
import Derived.Lib.SliceRun
import Derived.Deep.RegionLaw
import Derived.Laws.IdiomRangeMap
import Derived.ProofKit
import Derived.OpenShut
import Derived.ShutString
import Derived.ChangeOld
import Derived.SizedLaws
import Derived.Below
import Derived.Deep.Slices
import Derived.Deep.Fields
import Derived.ChangeSame
import Derived.Lib.SmallJoins
import Derived.Lib.AppendStr
import Init.Data.BitVec.Lemmas
import Derived.Maps.OwnSet
import Derived.Maps.Views
import Derived.StringKeys
import Derived.Test.YtpfofefecamkfaaGreatDoorProg
import Derived.Test.YtpfofefecamkfaaGreatDoorGIt
import Derived.BigRegion
namespace Go.Proofs.YtpfofefecamkfaaGreatDoor
open Go.RowKit
set_option maxRecDepth 100000

section
open Go.RowKit

/-- a list of entries of one's own -/
structure OwnE (w:World) (B:Nat) (A:Option Addr) (c:Nat) (l:List El):Prop where
 own:w.ownsRow B 97 6 (.slice A l.length c) l.length (elsV l)
 ins:∀ x ∈ l,w.ownsRow B 201 10 (.slice x.A x.p.stats.length x.c) x.p.stats.length (stsV x.p.stats)
section
variable {w w' w8:World} {B b c:Nat} {A:Option Addr} {l:List El}
theorem OwnE.nil (w:World) (B:Nat):OwnE w B none 0 []:=⟨World.ownsRow_nil _ _ _ _,by simp⟩
theorem OwnE.oth (h:OwnE w B A c l) (ho:Oth b w w') (hb:b < B):OwnE w' B A c l:=⟨own_oth h.own ho hb,fun x hx => own_oth (h.ins x hx) ho hb⟩
theorem OwnE.keep (h:OwnE w B A c l) (hb:Below w.heap.size w w'):OwnE w' B A c l:=⟨own_below h.own hb,fun x hx => own_below (h.ins x hx) hb⟩
theorem OwnE.base (h:OwnE w B A c l) {B2:Nat} (hb:B2 ≤ B):OwnE w B2 A c l:=⟨own_base h.own hb,fun x hx => own_base (h.ins x hx) hb⟩
theorem OwnE.rd (h:OwnE w B A c l):EnR w w.heap.size A c l:=⟨rd_own h.own,fun x hx => rd_own (h.ins x hx)⟩
theorem OwnE.snoc (h:OwnE w B A c l) {x:El} (hx:w.ownsRow B 201 10 (.slice x.A x.p.stats.length x.c) x.p.stats.length (stsV x.p.stats)) {v:Value} (hown:w8.ownsRow B 97 6 v (l.length + 1) (elsV l ++ elV x)) (hg:w.grownBy w8 (Value.slice A l.length c).ownBlock) :
 ∃ g cap,v = .slice (some ⟨g,0,none⟩) (l ++ [x]).length cap ∧ OwnE w8 B (some ⟨g,0,none⟩) cap (l ++ [x]):=by
 obtain ⟨g,cap,rfl,_,_⟩:=hown.form (by omega)
 have e1:(l ++ [x]).length = l.length + 1:=by simp
 have e2:elsV (l ++ [x]) = elsV l ++ elV x:=by simp [elsV]
 refine ⟨g,cap,by rw [e1],by rw [e1,e2];exact hown,fun y hy => ?_⟩
 rcases List.mem_append.1 hy with hy | hy
 ·exact own_grown (h.ins y hy) h.own hg (by decide)
 ·rw [List.mem_singleton.1 hy]
  exact own_grown hx h.own hg (by decide)
end
/-- within Open -/
structure GOE2 (w0:World) (br:Nat) (A:Option Addr) (c:Nat) (l:List UInt8) (e:Bool) (lA:Option Addr) (lc:Nat) (ls:List El) (wr:World):Prop where
 rd:RdrB wr br (fun k => k < br) A c l e
 own:OwnE wr (br + 1) lA lc ls
 bel:Below w0.heap.size w0 wr
 o1:w0.heap.size ≤ br
section
variable {w0 wr w7 w8:World} {br c lc c2:Nat} {e e2:Bool} {A A2 lA:Option Addr} {l l2:List UInt8} {ls:List El}
theorem GOE2.go (h:GOE2 w0 br A c l e lA lc ls wr) (hr:RdrB w7 br (fun k => k < br) A2 c2 l2 e2) (ho:Oth br wr w7):GOE2 w0 br A2 c2 l2 e2 lA lc ls w7 :=
 ⟨hr,h.own.oth ho (Nat.lt_succ_self _),h.bel.trans ((ho.below (Nat.le_of_lt h.rd.z)).mono h.o1),h.o1⟩
theorem GOE2.keep (h:GOE2 w0 br A c l e lA lc ls wr) (hb:Below wr.heap.size wr w7):GOE2 w0 br A c l e lA lc ls w7:=h.go (h.rd.keep hb) (.of hb)
theorem GOE2.snoc (h:GOE2 w0 br A c l e lA lc ls wr) {x:El} (hx:wr.ownsRow (br + 1) 201 10 (.slice x.A x.p.stats.length x.c) x.p.stats.length (stsV x.p.stats)) {v:Value} (hown:w8.ownsRow (br + 1) 97 6 v (ls.length + 1) (elsV ls ++ elV x)) (hg:wr.grownBy w8 (Value.slice lA ls.length lc).ownBlock) :
 ∃ g cap,v = .slice (some ⟨g,0,none⟩) (ls ++ [x]).length cap ∧ GOE2 w0 br A c l e (some ⟨g,0,none⟩) cap (ls ++ [x]) w8:=by
 obtain ⟨g,cap,hv,hO⟩:=h.own.snoc hx hown hg
 have hz:=h.rd.z
 have h1:=h.o1
 have hb8:Below (br + 1) wr w8:=below_app (Below.refl _ _) (Nat.le_refl _) h.own.own hg (by omega)
 exact ⟨g,cap,hv,h.rd.keepB hb8 (Nat.lt_succ_self _) (fun k hk _ => by have:k < br:=hk;omega),hO,h.bel.trans (hb8.mono (by omega)),h1⟩
end
def OpEndE (w:World) (b:List UInt8) (e:Ending) (w':World):Prop :=
 Below w.heap.size w w' ∧ ∃ lA lc,∃ ls:List El,e = .returned (.tuple #[.slice lA ls.length lc,.int .i64 ((opE b).1:Int)]) ∧ ls.map El.p = (opE b).2 ∧ ls.length ≤ 64 ∧ OwnE w' w.heap.size lA lc ls
theorem opEndE_bad {w w':World} {b:List UInt8} {er:Nat} (h:opE b = (er,[])) (hb:Below w.heap.size w w'):OpEndE w b (.returned (.tuple #[.slice none 0 0,.int .i64 (er:Int)])) w' :=
 ⟨hb,none,0,[],by rw [h];rfl,by rw [h];rfl,by simp,OwnE.nil _ _⟩
theorem magicE_ne {t:List UInt8} (h:t.take 3 ≠ mf1):((⟨(t.take 3).toArray⟩:ByteArray).toList == [77,70,49]) = false:=by
 rw [ByteArray.toList_eq,beq_eq_false_iff_ne]
 intro q
 exact h (by simpa [mf1] using q)
def GOR (w0:World) (br:Nat) (Q:List En × List UInt8 × Bool) (nv lv:Value) (wr:World):Prop :=
 ∃ (m:Nat) (A:Option Addr) (c:Nat) (l:List UInt8) (e:Bool) (lA:Option Addr) (lc:Nat) (ls:List El),nv = .int .i64 (m:Int) ∧ lv = .slice lA ls.length lc ∧ m + ls.length ≤ 64 ∧ Hid (rents m l e (ls.map El.p) = Q) ∧ GOE2 w0 br A c l e lA lc ls wr
set_option maxHeartbeats 4000000 in
theorem entOpen (w:World) (A:Option Addr) (c:Nat) (l:List UInt8) (hr:Rd w w.heap.size 1 A l.length c (bytesV l)) (ht:Table w) (hl:l.length ≤ 1000000) :
 Calls Tryz.prog 145 #[.slice A l.length c] w (OpEndE w l):=by
 have HT:=hide ht
 have hpos:=ht.pos
 clear ht
 go_enter Tryz.func145,Tryz.ntmps145
 go_wp2_with fail
 refine (crcOpen w _ c A l hr HT.out hl).mono ?_
 intro e w1 he
 obtain ⟨hb1,A1,c1,rfl,hr1⟩:=retOpen_one he
 have HRL:=hide hr
 clear he hr
 cases ho:open_ l with
 | none =>
   have HE:=hide (opE_none ho)
   simp only [Option.getD_none,Option.isSome_none,List.length_nil]
   clear ho hr1
   go_wp2_with fail
   go_ret2
   exact opEndE_bad HE.out hb1
 | some body =>
   rw [ho] at hr1
   simp only [Option.getD_some,Option.isSome_some] at hr1 ⊢
   have HO:=hide ho
   have hbl:Hid (body.length ≤ 1000000):=hide (by
    unfold open_ at ho
    split at ho
    ·injection ho with ho
     rw [← ho,List.length_take]
     omega
    ·cases ho)
   have hb62:body.length ≤ 9223372036854775807:=by have:=hbl.out;omega
   clear ho
   by_cases h3:body.length < 3
   ·have t1:decide ((body.length:Int) < 3) = true:=decide_eq_true (by omega)
    have HE:=hide (opE_magic HO.out (.inl h3))
    clear hr1
    go_wp2_with fail
    go_ret2
    exact opEndE_bad HE.out hb1
   have t1:decide ((body.length:Int) < 3) = false:=decide_eq_false (by omega)
   have hcap:=hr1.le
   have u1:=fun k W => run_cut_hi (P:=Tryz.prog) tyBytes A1 body.length c1 k (3:Int) 3 rfl (by omega) W
   have u2:=fun k W => cut_hi (P:=Tryz.prog) tyBytes A1 body.length c1 k (3:Int) 3 rfl (by omega) W
   have hpre:Rd w1 w1.heap.size 1 A1 3 c1 (bytesV (body.take 3)):=by
    have:=hr1.pre (hi:=3) (by omega)
    simpa [bytesV,List.map_take] using this
   have hstr:=run_str (P:=Tryz.prog) w1 Tryz.underlying55 Tryz.underlying5 Tryz.underlying9 hpre
   have H3:=hide h3
   clear hpre
   by_cases hq:body.take 3 ≠ mf1
   ·have HE:=hide (opE_magic HO.out (.inr hq))
    have hne:=magicE_ne hq
    generalize (⟨(body.take 3).toArray⟩:ByteArray) = pre at *
    clear hr1 hq h3 hcap
    go_wp2_with fail
    go_ret2
    exact opEndE_bad HE.out hb1
   have hq:body.take 3 = mf1:=Decidable.of_not_not hq
   have HM:Hid (¬ (body.length < 3 ∨ body.take 3 ≠ mf1)):=hide (by rintro (q | q);exact H3.out q;exact q hq)
   have hpe:(⟨(body.take 3).toArray⟩:ByteArray) = ⟨#[77,70,49]⟩:=by rw [hq];rfl
   rw [hpe] at hstr
   obtain ⟨A2,l2,hl2,s1,s2,hr2⟩:=rd_lo hr1 (lo:=3) (by omega)
   have s1:∀ k W,(Instr.sliceAt 55 (.slice A1 body.length c1) (some (.int k (3:Int))) none none).run Tryz.prog W = .ok (.slice A2 l2.length (c1 - 3)) W:=s1
   have s2:∀ k W,(Instr.slice 55 (.slice A1 body.length c1) (some (.int k (3:Int))) none none).run Tryz.prog W = .ok (.slice A2 l2.length (c1 - 3)) W:=s2
   have HL2:=hide hl2
   clear hr1 hq hpe h3 hcap hl2 hb62
   go_wp2_with fail
   have R2:=rdrB_new w1 (P:=fun k => k < w1.heap.size) hr2 267 (fun k hk => hk) (fun q => Nat.lt_irrefl _ q)
   have hb2:=(Below.refl w1.heap.size w1).alloc (Nat.le_refl _) (.cells #[.slice A2 l2.length (c1 - 3),.bool false] 267)
   have hB2:=below_call hb1 hb1.size hb2
   have zb:=hb1.size
   generalize w1.alloc (.cells #[.slice A2 l2.length (c1 - 3),.bool false] 267) = w2 at *
   generalize w1.heap.size = br at *
   have G2:GOE2 w br A2 (c1 - 3) l2 false none 0 [] w2:=⟨R2,OwnE.nil _ _,hB2,zb⟩
   clear R2 hb2 hr2 hB2 u1 u2 s1 s2 hstr hb1
   refine (entSmall w2 br _ A2 (c1 - 3) l2 false G2.rd 64 (by decide)).mono ?_
   rintro e w4 ⟨rfl,⟨A4,c4,h4⟩,ho4⟩
   have hlt:=rsm_le 64 l2 false
   obtain ⟨N,l4,b4,hn⟩:∃ n l' b',rsm 64 l2 false = (n,l',b'):=⟨_,_,_,rfl⟩
   rw [hn] at h4 hlt ⊢
   dsimp only at h4 hlt ⊢
   have G4:=G2.go h4 ho4
   obtain ⟨Q,hQ⟩:∃ Q,rents N l4 b4 [] = Q:=⟨_,rfl⟩
   have HQ:=hide hQ
   have HE:Hid (ents body = Q):=hide (by unfold ents;rw [← HL2.out,hn];exact hQ)
   clear hn hQ h4 ho4 G2
   go_wp2_with fail
   go_loopw [8,7] (GOR w br Q) (fun iv _ _ => (intOf iv).toNat)
   case atStart => exact ⟨N,A4,c4,l4,b4,none,0,[],rfl,rfl,by simpa using hlt,HQ,G4⟩
   case round =>
    clear G4 hlt
    obtain ⟨m,A',c',l',e',lA,lc,ls,rfl,rfl,hm64,hrd,G⟩:=hrel
    have k1:=G.rd.c1
    have HG:=hide G
    cases e' with
    | true =>
      have hq:=rents_end (n:=m) (l:=l') (bad:=true) (acc:=ls.map El.p) (.inr rfl)
      rw [hrd.out] at hq
      have HRES:=hide (opE_bad HO.out HM.out (by rw [HE.out,hq]))
      clear hq hrd G
      by_cases hm:m = 0
      ·have t2:decide ((0:Int) < (m:Int)) = false:=decide_eq_false (by omega)
       have t3:¬ 0 < m:=by omega
       go_wp2_with fail
       go_ret2
       exact opEndE_bad HRES.out HG.out.bel
      ·have t2:decide ((0:Int) < (m:Int)) = true:=decide_eq_true (by omega)
       go_wp2_with fail
       go_ret2
       exact opEndE_bad HRES.out HG.out.bel
    | false =>
      by_cases hm:m = 0
      ·have hq:=rents_end (n:=m) (l:=l') (bad:=false) (acc:=ls.map El.p) (.inl hm)
       rw [hrd.out] at hq
       have HE2:Hid (ents body = (ls.map El.p,l',false)):=hide (HE.out.trans hq)
       have HB:Hid (¬ (ents body).2.2 = true):=hide (by rw [HE2.out];simp)
       have t2:decide ((0:Int) < (m:Int)) = false:=decide_eq_false (by omega)
       have t3:¬ 0 < m:=by omega
       have hls:ls.length ≤ 64:=by omega
       clear hq hrd G hm64
       go_wp2_with fail
       refine (entWrite wr lA lc ls HG.out.own.rd (HT.out.below HG.out.bel hpos)).mono ?_
       rintro e w5 ⟨hb5,(⟨her,v5,rfl,hown5⟩ | ⟨her,rfl⟩)⟩
       ·obtain ⟨A5,c5,rfl⟩:=own_slice hown5
        have hr5:=rd_own hown5
        have hbl5:=HG.out.bel.trans (hb5.mono HG.out.bel.size)
        have hra:=(HRL.out.below hbl5).more hbl5.size
        have HG5:=hide (HG.out.own.keep hb5)
        have HER:=hide her
        clear her hown5 k1
        go_wp2_with fail
        refine (equalBytes w5 w5.heap.size _ c5 _ c A5 A _ l hr5 hra (Nat.le_refl _)).mono ?_
        rintro e w6 ⟨rfl,hb6⟩
        have hb66:=below_call hbl5 hbl5.size hb6
        cases hq:(wrES (ls.map El.p) == l) with
        | true =>
          have HRES:=hide (opE_good HO.out HM.out HB.out (by rw [HE2.out];exact ⟨HER.out,beq_iff_eq.1 hq⟩))
          clear hq
          go_wp2_with fail
          go_ret2
          refine ⟨hb66,lA,lc,ls,by rw [HRES.out];rfl,by rw [HRES.out,HE2.out],hls,(HG5.out.keep hb6).base ?_⟩
          have:=HG.out.o1
          omega
        | false =>
          have HRES:=hide (opE_other HO.out HM.out HB.out (by rw [HE2.out];rintro ⟨_,q⟩;have q:wrES (ls.map El.p) = l:=q;rw [q,beq_self_eq_true] at hq;cases hq))
          clear hq
          go_wp2_with fail
          go_ret2
          exact opEndE_bad HRES.out hb66
       ·have HRES:=hide (opE_other HO.out HM.out HB.out (by rw [HE2.out];rintro ⟨q,_⟩;exact her q))
        have t59:((errE (ls.map El.p):Int) != 0) = true:=by rw [bne_iff_ne];omega
        have hbl5:=HG.out.bel.trans (hb5.mono HG.out.bel.size)
        generalize errE (ls.map El.p) = er at *
        clear her k1
        go_wp2_with fail
        go_ret2
        exact opEndE_bad HRES.out hbl5
      ·have hq:=hrd.out
       rw [show m = (m - 1) + 1 by omega,rents_on] at hq
       have HQ2:=hide hq
       have t2:decide ((0:Int) < (m:Int)) = true:=decide_eq_true (by omega)
       have HM0:Hid (0 < m):=hide (by omega)
       clear hq hrd
       go_wp2_with fail
       refine (entREntry wr br _ A' c' l' false G.rd).mono ?_
       rintro e w5 ⟨F,fc,rfl,h8,hown5,⟨A5,c5,rd5⟩,ho5⟩
       obtain ⟨T,hT⟩:∃ T,rentry l' false = T:=⟨_,rfl⟩
       obtain ⟨x5,l5,e5⟩:=T
       rw [hT] at rd5 hown5 h8 ⊢
       dsimp only [elA] at rd5 hown5 h8 ⊢
       have HQ3:Hid (rents (m - 1) l5 e5 ((ls ++ [(⟨x5,F,fc⟩:El)]).map El.p) = Q):=hide (by have q:=HQ2.out;rw [hT] at q;rw [List.map_append];exact q)
       have G5:=G.go rd5 ho5
       have hz5:br + 1 ≤ wr.heap.size:=G.rd.z
       have hx5:=own_base hown5 hz5
       have hbL:=(Below.refl w5.heap.size w5).alloc (Nat.le_refl _) (.cells (elA x5 F fc) 97)
       have G6:=G5.keep hbL
       have hx6:=own_below hx5 hbL
       have hrL:Rd (w5.alloc (.cells (elA x5 F fc) 97)) (w5.heap.size + 1) 6 (some ⟨w5.heap.size,0,none⟩) 1 1 (elV ⟨x5,F,fc⟩):=Rd.lit (n:=1) (sz:=6) w5 97 (elA x5 F fc) rfl (by unfold maxLen;omega)
       have hz6:br + 1 ≤ (w5.alloc (.cells (elA x5 F fc) 97)).heap.size:=by have:=ho5.size;have:=hbL.size;omega
       have hom:=G6.own.own
       dsimp only [elA] at hrL hz6 G6 hx6 hom
       clear hT hbL rd5 ho5 G5 hx5 hown5 HQ2 k1 HG G
       go_wp2_with (at_builtin;refine wpList_app _ tyEls rfl (.tmp 44) (.tmp 47) rfl (br + 1) _ ls.length (elsV ls) rfl hom (w5.heap.size + 1) _ 1 1 (elV ⟨x5,F,fc⟩) rfl hrL (elV_one _) (by omega) hz6 ?_;intro v8 w8 hown8 hg8 _)
       obtain ⟨g,cap,rfl,G8⟩:=G6.snoc (x:=⟨x5,F,fc⟩) hx6 hown8 hg8
       clear hown8 hg8 G6 hx6 hom hrL
       go_wp2_with fail
       go_roundw
       case rel => exact ⟨m - 1,A5,c5,l5,e5,_,cap,ls ++ [⟨x5,F,fc⟩],by have:=HM0.out;congr 1;omega,rfl,by have:=HM0.out;rw [List.length_append,List.length_singleton];omega,HQ3,G8⟩
       case measure => have:=HM0.out;simp [intOf];omega
end

section
open Go.ChangeShapes Go.WideShapes Go.ChangeAt Go.RowKit Go.Deep Go.Joins

section
variable {H:Type} {enc:TypeId × Value → H} {w:World} {base:Nat} {spare:Nat → Bool} {held:Bool} {fuel:Nat}
/-- a list of entries, where it lies -/
structure Ll where
 l:List El
 A:Option Addr
 c:Nat
instance:Inhabited Ll:=⟨⟨[],none,0⟩⟩
def llV (x:Ll):List Value:=[.slice x.A x.l.length x.c]
theorem llV_length (x:Ll):(llV x).length = 1:=rfl
def llsV (l:List Ll):List Value:=l.flatMap llV
end
end


/-! ### plain -/
def stepM (out:List En) (x:En):List En:=if hasNm (out.map En.name) x.name = true then out else out ++ [x]
def mg (q:List En):List En:=q.foldl stepM []
def mergeE (ls:List (List En)):List En:=mg ls.flatten
theorem mg_snoc (q:List En) (x:En):mg (q ++ [x]) = stepM (mg q) x:=by simp [mg]
theorem stepM_len (out:List En) (x:En):(stepM out x).length ≤ out.length + 1:=by
 unfold stepM
 split
 ·omega
 ·simp
theorem fold_len (q:List En):∀ acc,(q.foldl stepM acc).length ≤ acc.length + q.length:=by
 induction q with
 | nil => simp
 | cons x q ih =>
   intro acc
   have h1:=ih (stepM acc x)
   have h2:=stepM_len acc x
   rw [List.foldl_cons,List.length_cons]
   omega
theorem mg_len (q:List En):(mg q).length ≤ q.length:=by
 have:=fold_len q []
 simpa [mg] using this
theorem take_next {l:List En} {k:Nat} (hk:k < l.length):l.take (k + 1) = l.take k ++ [l.getD k default]:=by
 rw [List.take_add_one,List.getElem?_eq_getElem hk,getD_at _ _ hk]
 rfl
theorem flat_next' {l:List (List En)} {k:Nat} (hk:k < l.length):(l.take (k + 1)).flatten = (l.take k).flatten ++ l.getD k []:=by
 rw [List.take_add_one,List.getElem?_eq_getElem hk,List.flatten_append,getD_at _ _ hk]
 simp
theorem flat_take_le (l:List (List En)) (k:Nat):((l.take k).flatten).length ≤ l.flatten.length:=by
 conv => rhs;rw [← List.take_append_drop k l,List.flatten_append,List.length_append]
 omega
def nmsOf (out:List El):List ByteArray:=(out.map El.p).map En.name
theorem Rd.llA {w:World} {B n c:Nat} {A:Option Addr} {l:List Ll} (h:Rd w B 1 A n c (llsV l)) {i:Nat} (hi:i < l.length):∃ b off,A = some ⟨b,off,none⟩ ∧ b < B ∧ ∀ X,l.getD i default = X → w.cell? ⟨b,off + i,none⟩ = some (.slice X.A X.l.length X.c):=by
 obtain ⟨b,off,rfl,hb,hc⟩:=h.el llV 1 llV_length hi (by omega)
 refine ⟨b,off,rfl,hb,fun X hX => ?_⟩
 subst hX
 have:=hc 0 _ rfl
 rw [Nat.mul_one] at this
 exact this
/-- what merging ends with -/
def MgEnd (w:World) (M:List En) (e:Ending) (w':World):Prop :=
 Below w.heap.size w w' ∧ ∃ oA oc,∃ out:List El,e = .returned (.slice oA out.length oc) ∧ out.map El.p = M ∧ EnR w' w'.heap.size oA oc out
/-! ### the document's -/
theorem cloneStats (w:World) (B n c:Nat) (A:Option Addr) (xs:List Value) (hr:Rd w B 10 A n c xs) (h1:∀ u ∈ xs,u.oneCell' = true) (hb:n * 88 ≤ 140737488355328) (hB:B ≤ w.heap.size) :
 Calls Tryz.prog 222 #[.slice A n c] w (RetRow w 201 10 n xs):=by
 have heq:=fun W => Lib.run_eql_slice_nil (P:=Tryz.prog) W 95 201 A n c 0 0 Tryz.underlying95
 cases A with
 | none =>
   obtain ⟨rfl,rfl⟩:=hr.none_
   go_enter Tryz.func222,Tryz.ntmps222
   go_wp2_with fail
   go_ret
   exact ⟨_,rfl,World.ownsRow_nil _ _ _ _,Below.refl _ _⟩
 | some ad =>
   have hlit:=own_lit w (base:=w.heap.size) 201 10 0 #[] (Nat.le_refl _) (by decide) rfl
   have hr':=hr.alloc hB (.cells #[] 201)
   go_enter Tryz.func222,Tryz.ntmps222
   go_wp2_with (at_builtin;refine wpList_app _ tySts rfl _ _ rfl w.heap.size _ 0 [] rfl hlit B (some ad) _ c _ rfl hr' h1 (by omega) (by simp) ?_;intro v2 w2 hown2 hg2 _;simp only [Nat.zero_add,List.nil_append] at hown2;have hb2:=below_app ((Below.refl w.heap.size w).alloc (Nat.le_refl _) (.cells #[] 201)) (Nat.le_refl _) hlit hg2 (by simp))
   go_ret
   exact ⟨v2,rfl,hown2,hb2⟩

set_option maxHeartbeats 2000000 in
theorem entOwn (w:World) (x:En) (SA:Option Addr) (sc:Nat) (hr:Rd w w.heap.size 10 SA x.stats.length sc (stsV x.stats)) (hl:x.stats.length ≤ 1000000) :
 Calls Tryz.prog 188 #[.agg (elA x SA sc)] w fun e w' => Below w.heap.size w w' ∧ ∃ F fc,e = .returned (.agg (elA x F fc)) ∧ w'.ownsRow w.heap.size 201 10 (.slice F x.stats.length fc) x.stats.length (stsV x.stats):=by
 have y1:=boxN_new w (elA x SA sc) 97
 have hb1:=(Below.refl w.heap.size w).alloc (Nat.le_refl _) (.cells (elA x SA sc) 97)
 have z1:(w.alloc (.cells (elA x SA sc) 97)).heap.size = w.heap.size + 1:=by simp
 simp only [elA] at y1 hb1 z1 ⊢
 go_enter Tryz.func188,Tryz.ntmps188
 go_upto_region 1 with fail
 generalize w.alloc (.cells #[.string x.name,.bool x.keys,.int .u64 (x.seq.toNat:Int),.int .i64 x.rows.toInt,.int .u32 (x.sch.toNat:Int),.slice SA x.stats.length sc] 97) = wa at *
 have y2:=boxN_new wa #[.string ⟨#[]⟩,.bool false,.int .u64 0,.int .i64 0,.int .u32 0,.slice none 0 0] 97
 have hb2:=(Below.refl wa.heap.size wa).alloc (Nat.le_refl _) (.cells #[.string ⟨#[]⟩,.bool false,.int .u64 0,.int .i64 0,.int .u32 0,.slice none 0 0] 97)
 have y3:=y1.keep hb2 y1.z
 have hbb:=below_call hb1 hb1.size hb2
 rw [z1] at y2
 generalize wa.alloc (.cells #[.string ⟨#[]⟩,.bool false,.int .u64 0,.int .i64 0,.int .u32 0,.slice none 0 0] 97) = wb at *
 have hr2:=(hr.below hbb).more hbb.size
 have k5:=y3.cell 5 _ rfl
 obtain ⟨b1,hb1e⟩:∃ b,b = w.heap.size:=⟨_,rfl⟩
 obtain ⟨b2,hb2e⟩:∃ b,b = w.heap.size + 1:=⟨_,rfl⟩
 rw [← hb2e] at y2
 rw [← hb1e] at y3 k5
 rw [← hb2e, ← hb1e]
 have n1:b1 ≠ b2:=by omega
 have n2:b2 ≠ b1:=by omega
 have l1:b1 < wb.heap.size:=y3.z
 have l2:b2 < wb.heap.size:=y2.z
 have HE:=hide (And.intro hb1e hb2e)
 clear y1 hb1 hb2 z1 hr hb1e hb2e
 clear wa
 go_wp2_with fail
 refine (cloneStats wb wb.heap.size _ sc SA _ hr2 (stsV_one _) (by omega) (Nat.le_refl _)).mono ?_
 rintro e w3 ⟨v3,rfl,hown3,hb3⟩
 obtain ⟨F,fc,rfl⟩:=own_slice hown3
 have u1:=y3.keep hb3 l1
 have u2:=y2.keep hb3 l2
 have hB3:=below_call hbb hbb.size hb3
 clear y3 y2 k5 hr2 hbb hb3
 have p0:=u1.cell 0 _ rfl
 have z0:=u2.cell 0 _ rfl
 have fz0:=u2.free 0 (by simp)
 have p1:=u1.cell 1 _ rfl
 have z1:=u2.cell 1 _ rfl
 have fz1:=u2.free 1 (by simp)
 have p2:=u1.cell 2 _ rfl
 have z2:=u2.cell 2 _ rfl
 have fz2:=u2.free 2 (by simp)
 have p3:=u1.cell 3 _ rfl
 have z3:=u2.cell 3 _ rfl
 have fz3:=u2.free 3 (by simp)
 have p4:=u1.cell 4 _ rfl
 have z4:=u2.cell 4 _ rfl
 have fz4:=u2.free 4 (by simp)
 have p5:=u1.cell 5 _ rfl
 have z5:=u2.cell 5 _ rfl
 have fz5:=u2.free 5 (by simp)
 have fp5:=u1.free 5 (by simp)
 have U1:=hide u1
 have U2:=hide u2
 clear u1 u2
 go_wp2_with fail
 (try simp only [Exit.inBlock,Exit.then])
 have r1:=U2.out.else (p:=⟨b1,5,none⟩) n1 (.slice F x.stats.length fc)
 have r9:=((((((r1).set (j:=0) (.string x.name) rfl).set (j:=1) (.bool x.keys) rfl).set (j:=2) (.int .u64 (x.seq.toNat:Int)) rfl).set (j:=3) (.int .i64 x.rows.toInt) rfl).set (j:=4) (.int .u32 (x.sch.toNat:Int)) rfl).set (j:=5) (.slice F x.stats.length fc) rfl
 refine bodyPost_ret (ret_en (b:=b2) rfl _ _ rfl r9) rfl ?_
 refine ⟨((((((hB3.setCell (p:=⟨b1,5,none⟩) (by show w.heap.size ≤ b1;have:=HE.out.1;omega) _).setCell (p:=⟨b2,0,none⟩) (by show w.heap.size ≤ b2;have:=HE.out.2;omega) _).setCell (p:=⟨b2,1,none⟩) (by show w.heap.size ≤ b2;have:=HE.out.2;omega) _).setCell (p:=⟨b2,2,none⟩) (by show w.heap.size ≤ b2;have:=HE.out.2;omega) _).setCell (p:=⟨b2,3,none⟩) (by show w.heap.size ≤ b2;have:=HE.out.2;omega) _).setCell (p:=⟨b2,4,none⟩) (by show w.heap.size ≤ b2;have:=HE.out.2;omega) _).setCell (p:=⟨b2,5,none⟩) (by show w.heap.size ≤ b2;have:=HE.out.2;omega) _,F,fc,rfl,own_base (ownsRow_setCell_below (ownsRow_setCell_below (ownsRow_setCell_below (ownsRow_setCell_below (ownsRow_setCell_below (ownsRow_setCell_below (ownsRow_setCell_below hown3 (a:=⟨b1,5,none⟩) l1 _) (a:=⟨b2,0,none⟩) l2 _) (a:=⟨b2,1,none⟩) l2 _) (a:=⟨b2,2,none⟩) l2 _) (a:=⟨b2,3,none⟩) l2 _) (a:=⟨b2,4,none⟩) l2 _) (a:=⟨b2,5,none⟩) l2 _) (by have:=HE.out;omega)⟩

section
open Go.RowKit

section
variable {w w':World} {mb B c:Nat} {A:Option Addr} {l:List El}
theorem own_map {base sz n:Nat} {e:TypeId} {v:Value} {xs:List Value} (h:w.ownsRow base e sz v n xs) {es:Array MapEntry} {clk:Nat} (hm:w.heap[mb]? = some (.map es clk)) (hg:w.grownBy w' (some mb)):w'.ownsRow base e sz v n xs:=by
 refine h.kept (row:=some mb) hg ?_
 rcases h.2 with ⟨q,_⟩ | ⟨g,cap,cur,q,_,hc,_⟩
 ·rw [q];exact .inl rfl
 ·refine .inr fun r => ?_
  rw [q] at r
  simp only [Value.ownBlock] at r
  injection r with r
  subst r
  rw [hc] at hm
  cases hm
theorem OwnE.map (h:OwnE w B A c l) {es:Array MapEntry} {clk:Nat} (hm:w.heap[mb]? = some (.map es clk)) (hg:w.grownBy w' (some mb)):OwnE w' B A c l:=⟨own_map h.own hm hg,fun x hx => own_map (h.ins x hx) hm hg⟩
theorem Met.app {names:List ByteArray} (h:Met w mb names) {base sz n:Nat} {e:TypeId} {v:Value} {xs:List Value} (ho:w.ownsRow base e sz v n xs) (hg:w.grownBy w' v.ownBlock):Met w' mb names:=by
 refine h.grown hg fun q => ?_
 obtain ⟨es,clk,hm⟩:=h.isMap
 rcases ho.2 with ⟨r,_⟩ | ⟨g,cap,cur,r,_,hc,_⟩
 ·rw [r] at q;cases q
 ·rw [r] at q
  simp only [Value.ownBlock] at q
  injection q with q
  subst q
  rw [hc] at hm
  cases hm
end
/-- as MgEnd: the entries are one's own -/
def MgEndO (w:World) (M:List En) (e:Ending) (w':World):Prop :=
 Below w.heap.size w w' ∧ ∃ oA oc,∃ out:List El,e = .returned (.slice oA out.length oc) ∧ out.map El.p = M ∧ OwnE w' w.heap.size oA oc out
set_option maxHeartbeats 4000000 in
theorem entMergeO (w:World) (A:Option Addr) (c:Nat) (ls:List Ll) (hr:Rd w w.heap.size 1 A ls.length c (llsV ls)) (hi:∀ x ∈ ls,EnR w w.heap.size x.A x.c x.l) (hsm:∀ x ∈ ls,∀ y ∈ x.l,y.p.name.size ≤ 9223372036854775807 ∧ y.p.stats.length ≤ 1000000) (L:List (List En)) (hL:L = ls.map fun x => x.l.map El.p) (hsz:L.flatten.length ≤ 1000000) :
 Calls Tryz.prog 146 #[.slice A ls.length c] w (MgEndO w (mergeE L)):=by
 have hmax:ls.length ≤ 9223372036854775807:=by have h3:=hr.le;have h4:=hr.cap;unfold maxLen at h4;omega
 have hlen:L.length = ls.length:=by rw [hL,List.length_map]
 have hget:∀ i,L.getD i [] = (ls.getD i default).l.map El.p:=fun i => by
  rw [hL,List.getD_eq_getElem?_getD,List.getD_eq_getElem?_getD,List.getElem?_map]
  cases ls[i]? <;> rfl
 clear hL
 have hmm:=@run_makeMap Tryz.prog
 have hM0:=met_new w
 have hb0:=(Below.refl w.heap.size w).alloc (Nat.le_refl _) (.map #[] 0)
 go_enter Tryz.func146,Tryz.ntmps146
 go_wp2_with fail
 generalize w.alloc (.map #[] 0) = w0 at *
 obtain ⟨mb,hmb⟩:∃ b,b = w.heap.size:=⟨_,rfl⟩
 rw [← hmb] at hM0
 rw [← hmb]
 have HMB:=hide hmb
 clear hmb hmm
 go_loopw [4,12] (fun v4 iv wr => ∃ (i:Nat) (oA:Option Addr) (oc:Nat) (out:List El),v4 = .slice oA out.length oc ∧ iv = .int .i64 (i:Int) ∧ i ≤ ls.length ∧ Hid (out.map El.p = mg (L.take i).flatten) ∧ OwnE wr w.heap.size oA oc out ∧ Met wr mb (nmsOf out) ∧ Below w.heap.size w wr) (fun _ iv _ => ls.length - (intOf iv).toNat)
 case atStart => exact ⟨0,none,0,[],rfl,rfl,Nat.zero_le _,hide (by simp [mg]),OwnE.nil _ _,hM0,hb0⟩
 case round =>
  clear hM0 hb0
  obtain ⟨i,oA,oc,out,rfl,rfl,hil,hout,hO,hM,hbr⟩:=hrel
  by_cases hlt:i < ls.length
  ·obtain ⟨lb,lo,rfl,hlb,hcl⟩:=hr.llA hlt
   have hin:=hi (ls.getD i default) (getD_mem hlt)
   have hsi:=hsm (ls.getD i default) (getD_mem hlt)
   have hgi:=hget i
   obtain ⟨X,hX⟩:∃ X,ls.getD i default = X:=⟨_,rfl⟩
   have hcell:=hcl X hX
   rw [hX] at hin hgi hsi
   obtain ⟨xl,xA,xc⟩:=X
   dsimp only at hin hgi hcell hsi
   have hfl:(L.take (i + 1)).flatten = (L.take i).flatten ++ xl.map El.p:=by rw [← hgi];exact flat_next' (by omega)
   have HFL:=hide hfl
   have HQL:Hid (((L.take i).flatten ++ xl.map El.p).length ≤ 1000000):=hide (by rw [← hfl];exact Nat.le_trans (flat_take_le _ _) hsz)
   obtain ⟨Q,hQ⟩:∃ Q,Q = (L.take i).flatten:=⟨_,rfl⟩
   rw [← hQ] at HFL HQL hout
   have hxmax:xl.length ≤ 9223372036854775807:=by have h3:=hin.row.le;have h4:=hin.row.cap;unfold maxLen at h4;omega
   have HSI:=hide hsi
   have hcw:=(hbr.cell (p:=⟨lb,lo + i,none⟩) hlb).trans hcell
   clear hcl hX hgi hfl hQ hsi hcell
   go_wp2_with fail
   go_loopw [4,18] (fun v4 iv wq => ∃ (k:Nat) (oA:Option Addr) (oc:Nat) (out:List El),v4 = .slice oA out.length oc ∧ iv = .int .i64 (k:Int) ∧ k ≤ xl.length ∧ Hid (out.map El.p = mg (Q ++ (xl.map El.p).take k)) ∧ OwnE wq w.heap.size oA oc out ∧ Met wq mb (nmsOf out) ∧ Below w.heap.size w wq) (fun _ iv _ => xl.length - (intOf iv).toNat)
   case atStart => exact ⟨0,oA,oc,out,rfl,rfl,Nat.zero_le _,hide (by rw [hout.out];simp),hO,hM,hbr⟩
   case round =>
    clear hout hO hM hbr hcw
    obtain ⟨k,oA,oc,out,rfl,rfl,hk,hout,hO,hM,hbr⟩:=hrel
    have hol:out.length ≤ 1000000:=by
     have h1:out.length = (mg (Q ++ (xl.map El.p).take k)).length:=by rw [← hout.out,List.length_map]
     have h2:=mg_len (Q ++ (xl.map El.p).take k)
     have h3:=HQL.out
     rw [List.length_append] at h2 h3
     rw [List.length_take] at h2
     omega
    by_cases hkl:k < xl.length
    ·obtain ⟨xb,xo,rfl,hxb,hcs⟩:=hin.row.elA hkl
     have hxin:=hin.ins (xl.getD k default) (getD_mem hkl)
     have hxs:=HSI.out (xl.getD k default) (getD_mem hkl)
     have hnx:mg (Q ++ (xl.map El.p).take (k + 1)) = stepM (mg (Q ++ (xl.map El.p).take k)) (xl.getD k default).p:=by
      rw [take_next (by rw [List.length_map];exact hkl), ← List.append_assoc,mg_snoc,map_get]
     obtain ⟨x,hx⟩:∃ x,xl.getD k default = x:=⟨_,rfl⟩
     obtain ⟨q0,q1,q2,q3,q4,q5⟩:=hcs x hx
     rw [hx] at hxin hnx hxs
     rw [← hout.out] at hnx
     have HNX:=hide hnx
     have hzz:w.heap.size ≤ wr.heap.size:=hbr.size
     have x0:=(hbr.cell (p:=⟨xb,xo + k * 6,none⟩) hxb).trans q0
     have x1:=(hbr.cell (p:=⟨xb,xo + k * 6 + 1,none⟩) hxb).trans q1
     have x2:=(hbr.cell (p:=⟨xb,xo + k * 6 + 2,none⟩) hxb).trans q2
     have x3:=(hbr.cell (p:=⟨xb,xo + k * 6 + 3,none⟩) hxb).trans q3
     have x4:=(hbr.cell (p:=⟨xb,xo + k * 6 + 4,none⟩) hxb).trans q4
     have x5:=(hbr.cell (p:=⟨xb,xo + k * 6 + 5,none⟩) hxb).trans q5
     have y:=boxN_new wr #[.string x.p.name,.bool x.p.keys,.int .u64 (x.p.seq.toNat:Int),.int .i64 x.p.rows.toInt,.int .u32 (x.p.sch.toNat:Int),.slice x.A x.p.stats.length x.c] 97
     have hbA:=(Below.refl wr.heap.size wr).alloc (Nat.le_refl _) (.cells #[.string x.p.name,.bool x.p.keys,.int .u64 (x.p.seq.toNat:Int),.int .i64 x.p.rows.toInt,.int .u32 (x.p.sch.toNat:Int),.slice x.A x.p.stats.length x.c] 97)
     have hOA:=hO.keep hbA
     have hMA:=hM.keep hbA
     have hbrA:=hbr.trans (hbA.mono hzz)
     have hyne:wr.heap.size ≠ mb:=by have:=hM.lt;omega
     have hleA:=Nat.le_trans hzz hbA.size
     clear hcs hx hnx q0 q1 q2 q3 q4 q5 hout hO hM hbr
     go_upto_region 9 with fail
     generalize wr.alloc (.cells #[.string x.p.name,.bool x.p.keys,.int .u64 (x.p.seq.toNat:Int),.int .i64 x.p.rows.toInt,.int .u32 (x.p.sch.toNat:Int),.slice x.A x.p.stats.length x.c] 97) = wA at *
     generalize wr.heap.size = yb at *
     have u0:=y.cell 0 _ rfl
     have hlook:=hMA.look x.p.name (by unfold maxLen;omega)
     clear x0 x1 x2 x3 x4 x5 hbA
     cases hh:hasNm (nmsOf out) x.p.name with
     | true =>
       rw [hh] at hlook
       have HOUT:Hid (out.map El.p = mg (Q ++ (xl.map El.p).take (k + 1))):=hide (by rw [HNX.out];unfold stepM;rw [if_pos (show hasNm ((out.map El.p).map En.name) x.p.name = true from hh)])
       clear hh
       go_wp2_with fail
       go_roundw
       case rel => exact ⟨k + 1,oA,oc,out,rfl,by go_num,hkl,HOUT,hOA,hMA,hbrA⟩
       case measure => simp [intOf];omega
     | false =>
       rw [hh] at hlook
       have HOUT:Hid ((out.map El.p) ++ [x.p] = mg (Q ++ (xl.map El.p).take (k + 1))):=hide (by rw [HNX.out];unfold stepM;rw [if_neg (by intro r;have r:hasNm (nmsOf out) x.p.name = true:=r;rw [hh] at r;cases r)])
       clear hh
       obtain ⟨w6,hput,hM6,hg6⟩:=hMA.put x.p.name (by unfold maxLen;omega) (by unfold nmsOf;rw [List.length_map,List.length_map];unfold maxLen;omega)
       obtain ⟨mes,mcl,hmb⟩:=hMA.isMap
       have y6:=y.map hg6 hyne
       have hO6:=hOA.map hmb hg6
       have hbl6:=below_map (B:=w.heap.size) hg6 (by rw [HMB.out];exact Nat.le_refl _) hleA
       have hbr6:=hbrA.trans hbl6
       go_upto_region 11 with fail
       have u0:=y6.cell 0 _ rfl
       have u1:=y6.cell 1 _ rfl
       have u2:=y6.cell 2 _ rfl
       have u3:=y6.cell 3 _ rfl
       have u4:=y6.cell 4 _ rfl
       have u5:=y6.cell 5 _ rfl
       have hxin6:=(hxin.below hbr6).more hbr6.size
       clear hput hlook hmb hg6 hMA y y6 hOA hbrA hbl6 hleA
       go_wp2_with fail
       refine (entOwn w6 x.p x.A x.c hxin6 hxs.2).mono ?_
       rintro e w7 ⟨hb7,F,fc,rfl,hown7⟩
       have hO7:=hO6.keep hb7
       have hM7:=hM6.keep hb7
       have hbr7:=below_call hbr6 hbr6.size hb7
       have hx7:=own_base hown7 hbr6.size
       have hbL:=(Below.refl w7.heap.size w7).alloc (Nat.le_refl _) (.cells (elA x.p F fc) 97)
       have hO8:=hO7.keep hbL
       have hM8:=hM7.keep hbL
       have hx8:=own_below hx7 hbL
       have hbr8:=below_call hbr7 hbr7.size hbL
       have hom:=hO8.own
       have hrL:Rd (w7.alloc (.cells (elA x.p F fc) 97)) (w7.heap.size + 1) 6 (some ⟨w7.heap.size,0,none⟩) 1 1 (elV ⟨x.p,F,fc⟩):=Rd.lit (n:=1) (sz:=6) w7 97 (elA x.p F fc) rfl (by unfold maxLen;omega)
       have hz8:w.heap.size ≤ (w7.alloc (.cells (elA x.p F fc) 97)).heap.size:=hbr8.size
       dsimp only [elA] at hrL hom hz8 hO8 hM8 hx8 hbr8 ⊢
       clear hown7 hb7 hO7 hM7 hbr7 hx7 hbL hO6 hM6 hbr6 u0 u1 u2 u3 u4 u5 hxin6
       go_wp2_with (at_builtin;refine wpList_app _ tyEls rfl (.tmp 30) (.tmp 33) rfl w.heap.size _ out.length (elsV out) rfl hom (w7.heap.size + 1) _ 1 1 (elV ⟨x.p,F,fc⟩) rfl hrL (elV_one _) (by omega) hz8 ?_;intro v9 w9 hown9 hg9 _)
       obtain ⟨g,cap,rfl,hO9⟩:=hO8.snoc (x:=⟨x.p,F,fc⟩) hx8 hown9 hg9
       have hM9:=hM8.app hom hg9
       have hbr9:=below_app hbr8 (Nat.le_refl _) hom hg9 hz8
       have HM9:Hid (Met w9 mb (nmsOf (out ++ [(⟨x.p,F,fc⟩:El)]))):=hide (by unfold nmsOf at hM9 ⊢;rw [List.map_append,List.map_append];exact hM9)
       clear hown9 hg9 hO8 hM8 hx8 hom hrL hM9 hbr8
       go_wp2_with fail
       go_roundw
       case rel => exact ⟨k + 1,_,cap,out ++ [⟨x.p,F,fc⟩],rfl,by go_num,hkl,hide (by rw [← HOUT.out,List.map_append];rfl),hO9,HM9.out,hbr9⟩
       case measure => simp [intOf];omega
    ·have HOUT:Hid (out.map El.p = mg (L.take (i + 1)).flatten):=hide (by rw [hout.out,HFL.out,List.take_of_length_le (by rw [List.length_map];omega)])
     clear hout
     go_wp2_with fail
     go_roundw
     case rel => exact ⟨i + 1,oA,oc,out,rfl,by go_num,hlt,HOUT,hO,hM,hbr⟩
     case measure => simp [intOf];omega
  ·have HEND:Hid (out.map El.p = mergeE L):=hide (by rw [hout.out,List.take_of_length_le (by omega)];rfl)
   clear hout
   go_wp2_with fail
   go_ret
   exact ⟨hbr,oA,oc,out,rfl,HEND.out,hO⟩
end

section
section
section
open Go.RowKit

/-! ### Slices that read a list of cells -/
section
variable {w w':World} {B B' sz n c:Nat} {A:Option Addr} {xs:List Value}

end

/-! ### Types of slices -/
/-! ### cuts, as equations for the walk -/

/-! ### append onto a row of the call's own -/
section
variable {P:Program} (w:World)

end

/-! ### Bytes -/
end



section
open Go.Lib

/-! ### one sign, by its bytes -/
end




/-! ### two rows of the call's own lie apart -/

section
open Go.RowKit

instance:Inhabited Fd:=⟨⟨0,ByteArray.empty,0,false⟩⟩
section
variable {l:List Fd} {k:Nat} {f:Fd} (hf:l.getD k default = f)
include hf
end
/-! ### a schema with a field more -/
end

section
open Go.RowKit

section
variable {P:Program} {ops:Array Oper} {md:Region.Mode} {E:World → World → Prop} {w0:World}

/-! ### From what is known to the frame -/
/-! ### Whatever order is picked -/
/-! ### Of a head, with a tail in one order -/
/-! ### The steps of the walk -/
section
variable {Q:List Slot → Prop} {o:Oper} {rest:List Oper} {ss:List Slot}

end

/-! ### At the end: the frame written out -/
end

/-! ### The growth in use: what was there is as it was -/
end




instance:Inhabited Vl:=⟨.none⟩








/-! ### texts -/
/-! ### a row that does not lie in a box -/
/-! ### what holds at each round -/

/-! ### rows that are alike -/

section
namespace Var

end Var
end






/-! ### all but one block is as it was -/
/-! ### a cut of bytes -/
/-! ### a reader's box -/
/-! ### plain: numbers, texts, fields -/


/-! ### what Unpack and the document's Schema give -/
/-! ### what holds at each round -/

section
open Go.RowKit

/-! ### the first place -/

/-! ### rows of structs -/
/-! ### snapshots, schemas -/
instance:Inhabited Sn:=⟨⟨0,0,0,0,0,0,[]⟩⟩
instance:Inhabited Nl:=⟨⟨default,none,0⟩⟩
instance:Inhabited Sl:=⟨⟨0,[],none,0⟩⟩
section
variable {w w':World} {B B' sc nc:Nat} {sA nA:Option Addr} {ss:List Sl} {ns:List Nl}
end
end


end

section





/-! ### a snapshot as a value of its own -/




/-! ### words for regions -/
/-! ### a table as a value -/



section
end














section
open Go.RowKit

section
variable {w w':World} {b:Nat} {sA:Option Addr} {sc:Nat} {ss:List Sl} {nA:Option Addr} {nc:Nat} {ns:List Nl} {cu:Nat}
end
end

section
open Go.ChangeShapes Go.WideShapes Go.ChangeAt Go.RowKit
open Go.ChangeMaps (open_string shut_string)

end

section
open Go.ChangeShapes Go.WideShapes Go.ChangeAt Go.RowKit Go.Deep Go.Joins

end








section
namespace Crc
/-! ### differences -/
end Crc
end











end


/-! ### plain -/
/-! ### bytes in certain blocks -/
/-! ### the reader's box -/


/-! ### which may be -/
/-! ### bytes -/
/-! ### what holds of those that may be -/

section
open Go.RowKit

section
variable {w w':World} {B c:Nat} {A:Option Addr}
end
end




/-! ### a map's block turns, and others stay -/


end


/-- an object -/
structure Th where
 bs:List UInt8
 loose:Bool
instance:Inhabited Th:=⟨⟨[],false⟩⟩
/-- objects by their names, each name once -/
abbrev Mp:=List (ByteArray × Th)
def keyIs (s:ByteArray) (p:ByteArray × Th):Bool:=p.1.toList == s.toList
def mget (m:Mp) (s:ByteArray):Option Th:=(m.find? (keyIs s)).map (·.2)
def mhas (m:Mp) (s:ByteArray):Bool:=(mget m s).isSome
def mdel (m:Mp) (s:ByteArray):Mp:=m.filter fun p => !keyIs s p
def mput (m:Mp) (s:ByteArray) (t:Th):Mp:=mdel m s ++ [(s,t)]
def msum (m:Mp):Nat:=m.foldr (fun p n => p.2.bs.length + n) 0
def mdist (m:Mp):Prop:=m.Pairwise fun p q => p.1 ≠ q.1
theorem keyIs_iff {s:ByteArray} {p:ByteArray × Th}:keyIs s p = true ↔ p.1 = s:=by
 unfold keyIs
 rw [beq_iff_eq]
 exact ⟨bytes_same,fun h => by rw [h]⟩
theorem mget_mem {m:Mp} {s:ByteArray} {t:Th} (h:mget m s = some t):(s,t) ∈ m:=by
 unfold mget at h
 cases hf:m.find? (keyIs s) with
 | none => rw [hf] at h;cases h
 | some p =>
   rw [hf] at h
   have h1:=List.mem_of_find?_eq_some hf
   have h2:=keyIs_iff.1 (List.find?_some hf)
   simp only [Option.map_some,Option.some.injEq] at h
   obtain ⟨a,b⟩:=p
   dsimp only at h h2
   rw [← h, ← h2]
   exact h1
theorem mget_none {m:Mp} {s:ByteArray} (h:mget m s = none):∀ p ∈ m,p.1 ≠ s:=fun p hp q => by
 unfold mget at h
 rw [Option.map_eq_none_iff,List.find?_eq_none] at h
 exact h p hp (keyIs_iff.2 q)
theorem mdel_mem {m:Mp} {s:ByteArray} {p:ByteArray × Th}:p ∈ mdel m s ↔ p ∈ m ∧ p.1 ≠ s:=by
 unfold mdel
 rw [List.mem_filter]
 refine and_congr Iff.rfl ?_
 rw [Bool.not_eq_true', ← Bool.not_eq_true,keyIs_iff]
theorem mdel_dist {m:Mp} (h:mdist m) (s:ByteArray):mdist (mdel m s):=h.filter _
theorem mput_dist {m:Mp} (h:mdist m) (s:ByteArray) (t:Th):mdist (mput m s t):=by
 unfold mput mdist
 rw [List.pairwise_append]
 exact ⟨mdel_dist h s,by simp,fun a ha b hb => by rw [List.mem_singleton.1 hb];exact (mdel_mem.1 ha).2⟩
theorem mget_put_same (m:Mp) (s:ByteArray) (t:Th):mget (mput m s t) s = some t:=by
 unfold mput mget
 rw [List.find?_append]
 have:(mdel m s).find? (keyIs s) = none:=by
  rw [List.find?_eq_none]
  intro p hp q
  exact (mdel_mem.1 hp).2 (keyIs_iff.1 q)
 rw [this]
 simp [keyIs]
theorem mget_del_same (m:Mp) (s:ByteArray):mget (mdel m s) s = none:=by
 unfold mget
 have:(mdel m s).find? (keyIs s) = none:=by
  rw [List.find?_eq_none]
  intro p hp q
  exact (mdel_mem.1 hp).2 (keyIs_iff.1 q)
 rw [this]
 rfl
theorem find_del_other {m:Mp} {s r:ByteArray} (h:r ≠ s):(mdel m s).find? (keyIs r) = m.find? (keyIs r):=by
 induction m with
 | nil => rfl
 | cons p m ih =>
   unfold mdel at ih ⊢
   rw [List.filter_cons]
   cases hk:keyIs s p with
   | true =>
     rw [Bool.not_true,if_neg (by simp),ih,List.find?_cons]
     have:keyIs r p = false:=by
      apply Bool.eq_false_iff.2
      intro q
      exact h ((keyIs_iff.1 q).symm.trans (keyIs_iff.1 hk))
     rw [this]
   | false =>
     rw [Bool.not_false,if_pos rfl,List.find?_cons,List.find?_cons,ih]
theorem mget_del_other {m:Mp} {s r:ByteArray} (h:r ≠ s):mget (mdel m s) r = mget m r:=by unfold mget;rw [find_del_other h]
theorem mget_put_other {m:Mp} {s r:ByteArray} {t:Th} (h:r ≠ s):mget (mput m s t) r = mget m r:=by
 unfold mput mget
 rw [List.find?_append,find_del_other h]
 have:([(s,t)]:Mp).find? (keyIs r) = none:=by
  rw [List.find?_eq_none]
  intro p hp q
  rw [List.mem_singleton.1 hp] at q
  exact h (keyIs_iff.1 q).symm
 rw [this,Option.or_none]
theorem mdel_len (m:Mp) (s:ByteArray):(mdel m s).length ≤ m.length:=List.length_filter_le _ _
theorem mput_len (m:Mp) (s:ByteArray) (t:Th):(mput m s t).length ≤ m.length + 1:=by
 have:=mdel_len m s
 unfold mput
 rw [List.length_append,List.length_singleton]
 omega
theorem msum_append (a b:Mp):msum (a ++ b) = msum a + msum b:=by
 induction a with
 | nil => simp [msum]
 | cons p a ih =>
   have e1:msum (p :: a ++ b) = p.2.bs.length + msum (a ++ b):=rfl
   have e2:msum (p :: a) = p.2.bs.length + msum a:=rfl
   rw [e1,e2,ih]
   omega
theorem mdel_of_none {m:Mp} {s:ByteArray} (h:mget m s = none):mdel m s = m:=by
 unfold mdel
 rw [List.filter_eq_self]
 intro p hp
 rw [Bool.not_eq_true', ← Bool.not_eq_true,keyIs_iff]
 exact mget_none h p hp
theorem msum_del {m:Mp} (hd:mdist m) {s:ByteArray} {t:Th} (h:mget m s = some t):msum (mdel m s) + t.bs.length = msum m:=by
 induction m with
 | nil => cases h
 | cons p m ih =>
   have hd2:mdist m:=(List.pairwise_cons.1 hd).2
   have e2:msum (p :: m) = p.2.bs.length + msum m:=rfl
   by_cases hk:p.1 = s
   ·have e1:mdel (p :: m) s = m:=by
     have:mdel (p :: m) s = mdel m s:=by unfold mdel;rw [List.filter_cons,keyIs_iff.2 hk];rfl
     rw [this]
     unfold mdel
     rw [List.filter_eq_self]
     intro q hq
     rw [Bool.not_eq_true', ← Bool.not_eq_true,keyIs_iff]
     intro r
     exact (List.pairwise_cons.1 hd).1 q hq (hk.trans r.symm)
    have e3:p.2 = t:=by
     have:mget (p :: m) s = some p.2:=by unfold mget;rw [List.find?_cons,keyIs_iff.2 hk];rfl
     rw [h] at this
     injection this with this
     exact this.symm
    rw [e1,e2,e3]
    omega
   ·have hk':keyIs s p = false:=by apply Bool.eq_false_iff.2;rw [ne_eq,keyIs_iff];exact hk
    have e1:mdel (p :: m) s = p :: mdel m s:=by unfold mdel;rw [List.filter_cons,hk'];rfl
    have e3:mget m s = some t:=by
     have:mget (p :: m) s = mget m s:=by unfold mget;rw [List.find?_cons,hk']
     rw [← this];exact h
    have:=ih hd2 e3
    rw [e1,e2]
    have e4:msum (p :: mdel m s) = p.2.bs.length + msum (mdel m s):=rfl
    rw [e4]
    omega
/-- a store -/
structure So where
 quota:Int
 used:Int
 m:Mp
 cell:ByteArray
 fuse:Int
 fault:Int
 dead:Bool
def So.new (q:Int):So:=⟨max 0 q,0,[],⟨#[]⟩, -1, -1,false⟩
def So.change (s:So):So × Nat :=
 if s.fuse = 0 then ({ s with dead:=true },120) else ({ s with fuse:=max (s.fuse - 1) (-1),fault:=max (s.fault - 1) (-1) },if s.fault = 0 then 121 else 0)
def So.add (s:So) (nm:ByteArray) (bs:List UInt8):So := { s with m:=mput s.m nm ⟨bs,true⟩,used:=s.used + bs.length }
def So.put (s:So) (nm:ByteArray) (bs:List UInt8):So × Nat :=
 if s.dead = true then (s,120) else if pathOk nm = false then (s,1) else if mhas s.m nm = true then (s,3) else if 65536 < bs.length then (s,5) else if s.quota - s.used < bs.length then (s,122)
 else if s.change.2 = 121 then s.change else (s.change.1.add nm bs,s.change.2)
def So.sync (s:So) (nm:ByteArray):So × Nat :=
 if s.dead = true then (s,120) else match mget s.m nm with
  | none => (s,2)
  | some t => if s.change.2 = 0 then ({ s.change.1 with m:=mput s.change.1.m nm ⟨t.bs,false⟩ },0) else s.change
def So.drop (s:So) (nm:ByteArray):So:=match mget s.m nm with
 | none => { s with m:=mdel s.m nm }
 | some t => { s with m:=mdel s.m nm,used:=s.used - t.bs.length }
def So.swap (s:So) (old nw:ByteArray):So × Nat :=
 if s.dead = true then (s,120) else if (s.cell.toList == old.toList) = false then (s,123) else if pathOk nw = false then (s,1) else if s.change.2 = 0 then ({ s.change.1 with cell:=nw },0) else s.change
def So.get (s:So) (nm:ByteArray):List UInt8 × Nat:=if s.dead = true then ([],120) else match mget s.m nm with | none => ([],2) | some t => (t.bs,0)
structure So.ok (s:So):Prop where
 q0:0 ≤ s.quota
 q1:s.quota ≤ 9223372036854775807
 us:s.used = msum s.m
 uq:s.used ≤ s.quota
 f0 : -1 ≤ s.fuse
 f1:s.fuse ≤ 9223372036854775807
 g0 : -1 ≤ s.fault
 g1:s.fault ≤ 9223372036854775807
 di:mdist s.m
theorem So.ok.change {s:So} (h:s.ok):s.change.1.ok:=by
 obtain ⟨a,b,c,d,e,f,g,i,j⟩:=h
 unfold So.change
 split
 ·exact ⟨a,b,c,d,e,f,g,i,j⟩
 ·exact ⟨a,b,c,d,by dsimp only;omega,by dsimp only;omega,by dsimp only;omega,by dsimp only;omega,j⟩
theorem So.change_m (s:So):s.change.1.m = s.m:=by unfold So.change;split <;> rfl
theorem So.change_used (s:So):s.change.1.used = s.used:=by unfold So.change;split <;> rfl
theorem So.change_quota (s:So):s.change.1.quota = s.quota:=by unfold So.change;split <;> rfl
theorem So.ok.add {s:So} (h:s.ok) {nm:ByteArray} {bs:List UInt8} (hn:mget s.m nm = none) (hq:(bs.length:Int) ≤ s.quota - s.used):(s.add nm bs).ok:=by
 obtain ⟨a,b,c,d,e,f,g,i,j⟩:=h
 refine ⟨a,b,?_,by show s.used + bs.length ≤ s.quota;omega,e,f,g,i,mput_dist j nm _⟩
 show s.used + bs.length = msum (mput s.m nm ⟨bs,true⟩)
 unfold mput
 rw [mdel_of_none hn,msum_append,c]
 have:msum [(nm,(⟨bs,true⟩:Th))] = bs.length:=by simp [msum]
 rw [this]
 omega
theorem So.ok.drop {s:So} (h:s.ok) (nm:ByteArray):(s.drop nm).ok:=by
 obtain ⟨a,b,c,d,e,f,g,i,j⟩:=h
 unfold So.drop
 split
 ·rename_i hm
  rw [mdel_of_none hm]
  exact ⟨a,b,c,d,e,f,g,i,j⟩
 ·rename_i t hm
  have:=msum_del j hm
  exact ⟨a,b,by dsimp only;omega,by dsimp only;omega,e,f,g,i,mdel_dist j nm⟩


set_option maxHeartbeats 1000000 in
theorem objNamed (w:World) (s:ByteArray):Calls Tryz.prog 150 #[.string s] w fun e w' => e = .returned (.bool (pathOk s)) ∧ Below w.heap.size w w':=by
 by_cases h1:s.size < 1
 ·rw [pathOk_short h1]
  have t1:decide ((s.size:Int) < 1) = true:=decide_eq_true (by omega)
  clear h1
  go_enter Tryz.func150,Tryz.ntmps150
  go_wp2_with fail
  go_ret
  exact ⟨rfl,Below.refl _ _⟩
 ·have t1:decide ((s.size:Int) < 1) = false:=decide_eq_false (by omega)
  by_cases h2:24 < s.size
  ·rw [pathOk_long h2]
   have t2:decide ((24:Int) < (s.size:Int)) = true:=decide_eq_true (by omega)
   clear h1 h2
   go_enter Tryz.func150,Tryz.ntmps150
   go_wp2_with fail
   go_ret
   exact ⟨rfl,Below.refl _ _⟩
  ·have t2:decide ((24:Int) < (s.size:Int)) = false:=decide_eq_false (by omega)
   rw [pathOk_mid (by omega) (by omega)]
   have hsz:s.size ≤ 24:=by omega
   obtain ⟨res,hres⟩:∃ res,res = allFrom s (pathAt s) s.size 0:=⟨_,rfl⟩
   rw [← hres]
   have HRES:=hide hres
   clear h1 h2 hres
   go_enter Tryz.func150,Tryz.ntmps150
   go_wp2_with fail
   go_loopw [4] (fun _ w' => ∃ (pos b:Nat),w' = w.iter s pos ∧ Hid (allFrom s (pathAt s) b pos = res) ∧ s.size ≤ pos + b) (fun _ w' => s.size - w'.iterPos w.heap.size)
   case atStart => exact ⟨0,s.size,rfl,hide HRES.out.symm,by omega⟩
   case round =>
    obtain ⟨pos,b,rfl,hc,hb⟩:=hrel
    by_cases hp:pos < s.size
    ·have hnx:∀ ty,(Instr.next (.pointer (some ⟨w.heap.size,0,none⟩)) true ty).run Tryz.prog (w.iter s pos) = .ok (.tuple #[.bool true,.int .i64 pos,.int .i32 (sgn s pos:Int)]) (w.iter s (pos + wid s pos)):=fun ty => run_next_any w s pos ty hp
     have hwp:=wid_pos s pos hp
     have HM:=hide (show s.size - (pos + wid s pos) < s.size - pos by omega)
     have HP:=hide hp
     have HB:=hide hb
     clear hb
     generalize hcc:sgn s pos = c at *
     have HCC:=hide hcc
     clear hcc hwp hp
     rcases (show (c < 45) ∨ (c = 45) ∨ (c = 46) ∨ (c = 47) ∨ (48 ≤ c ∧ c ≤ 57) ∨ (58 ≤ c ∧ c ≤ 96) ∨ (97 ≤ c ∧ c ≤ 122) ∨ (123 ≤ c) by omega) with g | g | g | g | g | g | g | g
     ·have a1:decide ((97:Int) ≤ (c:Int)) = false:=decide_eq_false (by omega)
      have a2:decide ((c:Int) ≤ 122) = true:=decide_eq_true (by omega)
      have a3:decide ((48:Int) ≤ (c:Int)) = false:=decide_eq_false (by omega)
      have a4:decide ((c:Int) ≤ 57) = true:=decide_eq_true (by omega)
      have a5:((c:Int) == 47) = false:=by rw [beq_eq_false_iff_ne];omega
      have a6:((c:Int) == 45) = false:=by rw [beq_eq_false_iff_ne];omega
      have HO:Hid (pathAt s pos = false):=hide (by rw [pathAt_eq s pos c HCC.out];exact decide_eq_false (by omega))
      have HG:=hide g
      clear g
      go_wp2_with fail
      go_ret
      have he:=hc.out
      rw [allFrom_no s _ b pos HP.out HB.out HO.out] at he
      exact ⟨by rw [← he];rfl,(Below.refl _ _).alloc (Nat.le_refl _) _⟩
     ·have a1:decide ((97:Int) ≤ (c:Int)) = false:=decide_eq_false (by omega)
      have a2:decide ((c:Int) ≤ 122) = true:=decide_eq_true (by omega)
      have a3:decide ((48:Int) ≤ (c:Int)) = false:=decide_eq_false (by omega)
      have a4:decide ((c:Int) ≤ 57) = true:=decide_eq_true (by omega)
      have a5:((c:Int) == 47) = false:=by rw [beq_eq_false_iff_ne];omega
      have a6:((c:Int) == 45) = true:=by rw [beq_iff_eq];omega
      have HO:Hid (pathAt s pos = true):=hide (by rw [pathAt_eq s pos c HCC.out];exact decide_eq_true (by omega))
      have HG:=hide g
      clear g
      go_wp2_with fail
      go_roundw
      case rel =>
       obtain ⟨b',h1,h2⟩:=allFrom_yes s _ b pos HP.out HB.out HO.out
       exact ⟨_,b',rfl,hide (h1 ▸ hc.out),h2⟩
      case measure => simpa using HM.out
     ·have a1:decide ((97:Int) ≤ (c:Int)) = false:=decide_eq_false (by omega)
      have a2:decide ((c:Int) ≤ 122) = true:=decide_eq_true (by omega)
      have a3:decide ((48:Int) ≤ (c:Int)) = false:=decide_eq_false (by omega)
      have a4:decide ((c:Int) ≤ 57) = true:=decide_eq_true (by omega)
      have a5:((c:Int) == 47) = false:=by rw [beq_eq_false_iff_ne];omega
      have a6:((c:Int) == 45) = false:=by rw [beq_eq_false_iff_ne];omega
      have HO:Hid (pathAt s pos = false):=hide (by rw [pathAt_eq s pos c HCC.out];exact decide_eq_false (by omega))
      have HG:=hide g
      clear g
      go_wp2_with fail
      go_ret
      have he:=hc.out
      rw [allFrom_no s _ b pos HP.out HB.out HO.out] at he
      exact ⟨by rw [← he];rfl,(Below.refl _ _).alloc (Nat.le_refl _) _⟩
     ·have a1:decide ((97:Int) ≤ (c:Int)) = false:=decide_eq_false (by omega)
      have a2:decide ((c:Int) ≤ 122) = true:=decide_eq_true (by omega)
      have a3:decide ((48:Int) ≤ (c:Int)) = false:=decide_eq_false (by omega)
      have a4:decide ((c:Int) ≤ 57) = true:=decide_eq_true (by omega)
      have a5:((c:Int) == 47) = true:=by rw [beq_iff_eq];omega
      have a6:((c:Int) == 45) = false:=by rw [beq_eq_false_iff_ne];omega
      have HO:Hid (pathAt s pos = true):=hide (by rw [pathAt_eq s pos c HCC.out];exact decide_eq_true (by omega))
      have HG:=hide g
      clear g
      go_wp2_with fail
      go_roundw
      case rel =>
       obtain ⟨b',h1,h2⟩:=allFrom_yes s _ b pos HP.out HB.out HO.out
       exact ⟨_,b',rfl,hide (h1 ▸ hc.out),h2⟩
      case measure => simpa using HM.out
     ·have a1:decide ((97:Int) ≤ (c:Int)) = false:=decide_eq_false (by omega)
      have a2:decide ((c:Int) ≤ 122) = true:=decide_eq_true (by omega)
      have a3:decide ((48:Int) ≤ (c:Int)) = true:=decide_eq_true (by omega)
      have a4:decide ((c:Int) ≤ 57) = true:=decide_eq_true (by omega)
      have a5:((c:Int) == 47) = false:=by rw [beq_eq_false_iff_ne];omega
      have a6:((c:Int) == 45) = false:=by rw [beq_eq_false_iff_ne];omega
      have HO:Hid (pathAt s pos = true):=hide (by rw [pathAt_eq s pos c HCC.out];exact decide_eq_true (by omega))
      have HG:=hide g
      clear g
      go_wp2_with fail
      go_roundw
      case rel =>
       obtain ⟨b',h1,h2⟩:=allFrom_yes s _ b pos HP.out HB.out HO.out
       exact ⟨_,b',rfl,hide (h1 ▸ hc.out),h2⟩
      case measure => simpa using HM.out
     ·have a1:decide ((97:Int) ≤ (c:Int)) = false:=decide_eq_false (by omega)
      have a2:decide ((c:Int) ≤ 122) = true:=decide_eq_true (by omega)
      have a3:decide ((48:Int) ≤ (c:Int)) = true:=decide_eq_true (by omega)
      have a4:decide ((c:Int) ≤ 57) = false:=decide_eq_false (by omega)
      have a5:((c:Int) == 47) = false:=by rw [beq_eq_false_iff_ne];omega
      have a6:((c:Int) == 45) = false:=by rw [beq_eq_false_iff_ne];omega
      have HO:Hid (pathAt s pos = false):=hide (by rw [pathAt_eq s pos c HCC.out];exact decide_eq_false (by omega))
      have HG:=hide g
      clear g
      go_wp2_with fail
      go_ret
      have he:=hc.out
      rw [allFrom_no s _ b pos HP.out HB.out HO.out] at he
      exact ⟨by rw [← he];rfl,(Below.refl _ _).alloc (Nat.le_refl _) _⟩
     ·have a1:decide ((97:Int) ≤ (c:Int)) = true:=decide_eq_true (by omega)
      have a2:decide ((c:Int) ≤ 122) = true:=decide_eq_true (by omega)
      have a3:decide ((48:Int) ≤ (c:Int)) = true:=decide_eq_true (by omega)
      have a4:decide ((c:Int) ≤ 57) = false:=decide_eq_false (by omega)
      have a5:((c:Int) == 47) = false:=by rw [beq_eq_false_iff_ne];omega
      have a6:((c:Int) == 45) = false:=by rw [beq_eq_false_iff_ne];omega
      have HO:Hid (pathAt s pos = true):=hide (by rw [pathAt_eq s pos c HCC.out];exact decide_eq_true (by omega))
      have HG:=hide g
      clear g
      go_wp2_with fail
      go_roundw
      case rel =>
       obtain ⟨b',h1,h2⟩:=allFrom_yes s _ b pos HP.out HB.out HO.out
       exact ⟨_,b',rfl,hide (h1 ▸ hc.out),h2⟩
      case measure => simpa using HM.out
     ·have a1:decide ((97:Int) ≤ (c:Int)) = true:=decide_eq_true (by omega)
      have a2:decide ((c:Int) ≤ 122) = false:=decide_eq_false (by omega)
      have a3:decide ((48:Int) ≤ (c:Int)) = true:=decide_eq_true (by omega)
      have a4:decide ((c:Int) ≤ 57) = false:=decide_eq_false (by omega)
      have a5:((c:Int) == 47) = false:=by rw [beq_eq_false_iff_ne];omega
      have a6:((c:Int) == 45) = false:=by rw [beq_eq_false_iff_ne];omega
      have HO:Hid (pathAt s pos = false):=hide (by rw [pathAt_eq s pos c HCC.out];exact decide_eq_false (by omega))
      have HG:=hide g
      clear g
      go_wp2_with fail
      go_ret
      have he:=hc.out
      rw [allFrom_no s _ b pos HP.out HB.out HO.out] at he
      exact ⟨by rw [← he];rfl,(Below.refl _ _).alloc (Nat.le_refl _) _⟩
    ·have hnx:∀ ty,(Instr.next (.pointer (some ⟨w.heap.size,0,none⟩)) true ty).run Tryz.prog (w.iter s pos) = _:=fun ty => run_next_end w s pos ty hp
     have he:=hc.out
     rw [allFrom_end s _ b pos hp] at he
     have HE:=hide he
     clear he
     go_wp2_with fail
     go_ret
     exact ⟨by rw [← HE.out];rfl,(Below.refl _ _).alloc (Nat.le_refl _) _⟩


section
open Go.RowKit

theorem kMapO:Tryz.prog.underlying 104 = some (.map 9 131):=Tryz.underlying104
/-- an element is held as it is -/
def elR (v:Value):Option (DataW Value × List MemPlace):=some (.held v,[])
def zTh:Value:=.agg #[.slice none 0 0,.bool false]
theorem zeroTh (w:World):(zeroValue 131).run Tryz.prog w = .ok zTh w:=by kernel_rfl
def kLit (s:ByteArray):Lit:=.string s.data.toList
theorem kLit_ne {s r:ByteArray} (h:r ≠ s):kLit r ≠ kLit s:=by
 intro q
 injection q with q
 exact h (bytes_same (by rw [ByteArray.toList_eq,ByteArray.toList_eq];exact q))
theorem key_of (s:ByteArray) (hs:s.size ≤ maxLen):keyOf Tryz.prog 9 (.string s) = some (kLit s):=Go.WideMaps.keyOf_string_mk Tryz.underlying9 hs
/-- block mb is the map of these objects, their bytes in blocks of P -/
structure MapR (P:Nat → Prop) (w:World) (mb N:Nat) (m:Mp) (D:DataW Value):Prop where
 own:w.ownsMap Tryz.prog 9 elR mb N D
 has:∀ s,Maps.has D (kLit s) = mhas m s
 at_:∀ s t,mget m s = some t → ∃ A c,D.atKey (kLit s) (.held zTh) = .held (.agg #[.slice A t.bs.length c,.bool t.loose]) ∧ RdP w P A t.bs.length c t.bs
 nP:¬ P mb
section
variable {P Q:Nat → Prop} {w w':World} {mb N c:Nat} {m:Mp} {D:DataW Value} {A:Option Addr} {bs:List UInt8} {lo:Bool}
theorem MapR.lt (h:MapR P w mb N m D):mb < w.heap.size:=h.own.lt
theorem MapR.move (h:MapR P w mb N m D) (hsz:w.heap.size ≤ w'.heap.size) (hmb:w'.heap[mb]? = w.heap[mb]?) (hk:∀ p:Addr,P p.block → p.block < w.heap.size → w'.cell? p = w.cell? p):MapR P w' mb N m D:=by
 obtain ⟨es,c,hb,r⟩:=h.own
 refine ⟨⟨es,c,hmb.trans hb,r⟩,h.has,fun s t ht => ?_,h.nP⟩
 obtain ⟨A,c,h1,h2⟩:=h.at_ s t ht
 exact ⟨A,c,h1,h2.keep hsz hk⟩
theorem MapR.imp (h:MapR P w mb N m D) (hi:∀ k,P k → k < w.heap.size → Q k) (hn:¬ Q mb):MapR Q w mb N m D :=
 ⟨h.own,h.has,fun s t ht => by obtain ⟨A,c,h1,h2⟩:=h.at_ s t ht;exact ⟨A,c,h1,h2.imp hi⟩,hn⟩
theorem MapR.keep (h:MapR P w mb N m D) (hb:Below w.heap.size w w'):MapR P w' mb N m D:=h.move hb.size (hb.block mb h.lt) (fun _p _ hl => hb.cell hl)
theorem mapR_new (P:Nat → Prop) (w:World) (hn:¬ P w.heap.size):MapR P (w.alloc (.map #[] 0)) w.heap.size 0 [] (.map []) :=
 ⟨World.ownsMap_made w _ _ _,fun s => rfl,fun s t ht => (by cases ht),hn⟩
/-- what the map tells of a name -/
theorem MapR.none (h:MapR P w mb N m D) {s:ByteArray} (hg:mget m s = none) (hs:s.size ≤ maxLen) :
 (Instr.lookup 104 (.map (some mb)) (.string s) true).run Tryz.prog w = .ok (.tuple #[zTh,.bool false]) w ∧ (Instr.lookup 104 (.map (some mb)) (.string s) false).run Tryz.prog w = .ok zTh w:=by
 have hf:Maps.has D (kLit s) = false:=by rw [h.has];unfold mhas;rw [hg];rfl
 constructor
 ·obtain ⟨v,ps,h1,h2⟩:=h.own.look_ok kStr kMapO (zeroTh w) (zd:=.held zTh) (zp:=[]) rfl (key_of s hs)
  rw [Maps.atKey_of_not_has hf] at h2
  simp only [elR,Option.some.injEq,Prod.mk.injEq,DataW.held.injEq] at h2
  rw [h1,hf,h2.1]
 ·obtain ⟨v,ps,h1,h2⟩:=h.own.lookup kStr kMapO (zeroTh w) (zd:=.held zTh) (zp:=[]) rfl (key_of s hs)
  rw [Maps.atKey_of_not_has hf] at h2
  simp only [elR,Option.some.injEq,Prod.mk.injEq,DataW.held.injEq] at h2
  rw [h1,h2.1]
theorem MapR.some_ (h:MapR P w mb N m D) {s:ByteArray} {t:Th} (hg:mget m s = some t) (hs:s.size ≤ maxLen) :
 ∃ A c,(Instr.lookup 104 (.map (some mb)) (.string s) true).run Tryz.prog w = .ok (.tuple #[.agg #[.slice A t.bs.length c,.bool t.loose],.bool true]) w ∧
  (Instr.lookup 104 (.map (some mb)) (.string s) false).run Tryz.prog w = .ok (.agg #[.slice A t.bs.length c,.bool t.loose]) w ∧ RdP w P A t.bs.length c t.bs:=by
 have hf:Maps.has D (kLit s) = true:=by rw [h.has];unfold mhas;rw [hg];rfl
 obtain ⟨A,c,ha,hr⟩:=h.at_ s t hg
 refine ⟨A,c,?_,?_,hr⟩
 ·obtain ⟨v,ps,h1,h2⟩:=h.own.look_ok kStr kMapO (zeroTh w) (zd:=.held zTh) (zp:=[]) rfl (key_of s hs)
  rw [ha] at h2
  simp only [elR,Option.some.injEq,Prod.mk.injEq,DataW.held.injEq] at h2
  rw [h1,hf,h2.1]
 ·obtain ⟨v,ps,h1,h2⟩:=h.own.lookup kStr kMapO (zeroTh w) (zd:=.held zTh) (zp:=[]) rfl (key_of s hs)
  rw [ha] at h2
  simp only [elR,Option.some.injEq,Prod.mk.injEq,DataW.held.injEq] at h2
  rw [h1,h2.1]
theorem MapR.put (h:MapR P w mb N m D) (hN:N ≤ 1000000) {s:ByteArray} (hs:s.size ≤ maxLen) (hr:RdP w P A bs.length c bs) :
 ∃ w' D',(Instr.mapUpdate 104 (.map (some mb)) (.string s) (.agg #[.slice A bs.length c,.bool lo])).run Tryz.prog w = .ok () w' ∧ MapR P w' mb (N + 1) (mput m s ⟨bs,lo⟩) D' ∧ w.grownBy w' (some mb):=by
 obtain ⟨w',hrun,hown,hg⟩:=h.own.update kStr kMapO (by unfold maxLen;omega) (key_of s hs) (val:=.agg #[.slice A bs.length c,.bool lo]) (d:=.held (.agg #[.slice A bs.length c,.bool lo])) (ps:=[]) rfl
 have ht:=h.own.tidy kStr
 have hcell:∀ p:Addr,P p.block → p.block < w.heap.size → w'.cell? p = w.cell? p:=fun p hp hl => World.cell?_of_block (w:=w) (hg.block p.block hl (by intro q;injection q with q;rw [q] at hp;exact h.nP hp))
 refine ⟨w',_,hrun,⟨hown,fun r => ?_,fun r t hrt => ?_,h.nP⟩,hg⟩
 ·by_cases e:r = s
  ·subst e
   rw [Maps.has_put_same ht.isMap (by trivial)]
   unfold mhas
   rw [mget_put_same]
   rfl
  ·rw [Maps.has_put_other (kLit_ne e),h.has]
   unfold mhas
   rw [mget_put_other e]
 ·by_cases e:r = s
  ·subst e
   rw [mget_put_same] at hrt
   injection hrt with hrt
   subst hrt
   exact ⟨A,c,Maps.atKey_put_same ht.isMap (by trivial) _ _,hr.keep hg.size hcell⟩
  ·rw [mget_put_other e] at hrt
   obtain ⟨A2,c2,h1,h2⟩:=h.at_ r t hrt
   exact ⟨A2,c2,(Maps.atKey_put_other (kLit_ne e) _ _).trans h1,h2.keep hg.size hcell⟩
end
/-- a store -/
structure StR (P:Nat → Prop) (w:World) (sb mb N:Nat) (s:So):Prop where
 bx:BoxN w sb [.int .i64 s.quota,.int .i64 s.used,.map (some mb),.string s.cell,.int .i64 s.fuse,.int .i64 s.fault,.bool s.dead]
 mp:∃ D,MapR P w mb N s.m D
 nP:¬ P sb
 ne:sb ≠ mb
 ok:s.ok
/-- only blocks sb and mb turned -/
structure Ost (sb mb:Nat) (w w':World):Prop where
 os:w'.os = w.os
 tape:w'.tape = w.tape
 output:w'.output = w.output
 size:w.heap.size ≤ w'.heap.size
 block:∀ k,k < w.heap.size → k ≠ sb → k ≠ mb → w'.heap[k]? = w.heap[k]?
section
variable {P Q:Nat → Prop} {u w w':World} {sb mb N:Nat} {s:So}
theorem Ost.refl (sb mb:Nat) (w:World):Ost sb mb w w:=⟨rfl,rfl,rfl,Nat.le_refl _,fun _ _ _ _ => rfl⟩
theorem Ost.trans (h:Ost sb mb u w) (k:Ost sb mb w w'):Ost sb mb u w':=⟨k.os.trans h.os,k.tape.trans h.tape,k.output.trans h.output,Nat.le_trans h.size k.size,fun i hi h1 h2 => (k.block i (Nat.lt_of_lt_of_le hi h.size) h1 h2).trans (h.block i hi h1 h2)⟩
theorem Ost.of (h:Below w.heap.size w w'):Ost sb mb w w':=⟨h.os,h.tape,h.output,h.size,fun k hk _ _ => h.block k hk⟩
theorem Ost.ofOth (h:Oth sb w w'):Ost sb mb w w':=⟨h.os,h.tape,h.output,h.size,fun k hk h1 _ => h.block k hk h1⟩
theorem Ost.map (hg:w.grownBy w' (some mb)):Ost sb mb w w':=⟨hg.os,hg.tape,hg.output,hg.size,fun k hk _ h2 => hg.block k hk (by intro q;injection q with q;exact h2 q)⟩
theorem Ost.drew (h:Ost sb mb u w):Ost sb mb u w.drew:=⟨h.os,h.tape,h.output,h.size,h.block⟩
theorem Ost.cell (h:Ost sb mb w w') {p:Addr} (hp:p.block < w.heap.size) (h1:p.block ≠ sb) (h2:p.block ≠ mb):w'.cell? p = w.cell? p:=World.cell?_of_block (w:=w) (h.block _ hp h1 h2)
theorem StR.keep (h:StR P w sb mb N s) (hb:Below w.heap.size w w'):StR P w' sb mb N s:=⟨h.bx.keep hb h.bx.z,by obtain ⟨D,hD⟩:=h.mp;exact ⟨D,hD.keep hb⟩,h.nP,h.ne,h.ok⟩
theorem StR.drew (h:StR P w sb mb N s):StR P w.drew sb mb N s:=h.keep ((Below.refl _ w).drew)
theorem StR.mono (h:StR P w sb mb N s) {N2:Nat} (hN:N ≤ N2):StR P w sb mb N2 s:=⟨h.bx,by obtain ⟨D,hD⟩:=h.mp;exact ⟨D,hD.own.mono hN,hD.has,hD.at_,hD.nP⟩,h.nP,h.ne,h.ok⟩
theorem StR.imp (h:StR P w sb mb N s) (hi:∀ k,P k → k < w.heap.size → Q k) (h1:¬ Q sb) (h2:¬ Q mb):StR Q w sb mb N s:=⟨h.bx,by obtain ⟨D,hD⟩:=h.mp;exact ⟨D,hD.imp hi h2⟩,h1,h.ne,h.ok⟩
theorem StR.mlt (h:StR P w sb mb N s):mb < w.heap.size:=by obtain ⟨D,hD⟩:=h.mp;exact hD.lt
/-- cells of the box turned -/
theorem StR.box (h:StR P w sb mb N s) (ho:Oth sb w w') {s2:So} (hm:s2.m = s.m) (hk:s2.ok) (hb:BoxN w' sb [.int .i64 s2.quota,.int .i64 s2.used,.map (some mb),.string s2.cell,.int .i64 s2.fuse,.int .i64 s2.fault,.bool s2.dead]):StR P w' sb mb N s2:=by
 obtain ⟨D,hD⟩:=h.mp
 refine ⟨hb,⟨D,by rw [hm];exact hD.move ho.size (ho.block mb hD.lt (fun q => h.ne q.symm)) (fun p hp hl => ho.cell hl (fun q => h.nP (by rw [← q];exact hp)))⟩,h.nP,h.ne,hk⟩
/-- the map turned -/
theorem StR.map (h:StR P w sb mb N s) (hg:w.grownBy w' (some mb)) {N2:Nat} {m2:Mp} {D2:DataW Value} (hM:MapR P w' mb N2 m2 D2) (hk:({ s with m:=m2 }:So).ok):StR P w' sb mb N2 { s with m:=m2 }:=by
 have hbk:w'.heap[sb]? = w.heap[sb]?:=hg.block sb h.bx.z (by intro q;injection q with q;exact h.ne q)
 exact ⟨⟨fun j v hj => (World.cell?_of_block (w:=w) (a:=⟨sb,j,none⟩) hbk).trans (h.bx.cell j v hj),fun j hj => (World.frozen?_of_block (w:=w) (a:=⟨sb,j,none⟩) hbk).trans (h.bx.free j hj),Nat.lt_of_lt_of_le h.bx.z hg.size⟩,⟨D2,hM⟩,h.nP,h.ne,hk⟩
end
/-- what a call on a store ends with -/
def StEndO (P:Nat → Prop) (w:World) (sb mb N:Nat) (r:So × Nat) (e:Ending) (w':World):Prop :=
 e = .returned (.int .i64 (r.2:Int)) ∧ StR P w' sb mb N r.1 ∧ Ost sb mb w w'
set_option maxHeartbeats 2000000 in
theorem objChange (P:Nat → Prop) (w:World) (sb mb N:Nat) (s:So) (h:StR P w sb mb N s):Calls Tryz.prog 118 #[.pointer (some ⟨sb,0,none⟩)] w (StEndO P w sb mb N s.change):=by
 have c4:=h.bx.cell 4 _ rfl
 have c5:=h.bx.cell 5 _ rfl
 have c6:=h.bx.cell 6 _ rfl
 have f4:=h.bx.free 4 (by simp)
 have f5:=h.bx.free 5 (by simp)
 have f6:=h.bx.free 6 (by simp)
 by_cases h0:s.fuse = 0
 ·have t8:(s.fuse == 0) = true:=by rw [beq_iff_eq];exact h0
  have hc:s.change = ({ s with dead:=true },120):=by unfold So.change;rw [if_pos h0]
  have HC:=hide hc
  have hk:=h.ok.change
  rw [hc] at hk
  have HK:=hide hk
  clear h0 hc hk
  go_enter Tryz.func118,Tryz.ntmps118
  go_wp2_with fail
  go_ret
  rw [HC.out]
  exact ⟨rfl,h.box ((Oth.refl sb w).set 6 _) rfl HK.out (h.bx.set (j:=6) (.bool true) rfl),.ofOth ((Oth.refl sb w).set 6 _)⟩
 ·have t8:(s.fuse == 0) = false:=by rw [beq_eq_false_iff_ne];exact h0
  obtain ⟨q1,q2,q3,q4,q5,q6,q7,q8,q9⟩:=h.ok
  have hc:s.change = ({ s with fuse:=max (s.fuse - 1) (-1),fault:=max (s.fault - 1) (-1) },if s.fault = 0 then 121 else 0):=by unfold So.change;rw [if_neg h0]
  have hk:=h.ok.change
  rw [hc] at hk
  have HK:=hide hk
  have HC:=hide hc
  have w1:wrap64 (s.fuse - 1) = s.fuse - 1:=IntWalk.wrap64_in _ ⟨by omega,by omega⟩
  have w2:wrap64 (s.fault - 1) = s.fault - 1:=IntWalk.wrap64_in _ ⟨by omega,by omega⟩
  obtain ⟨fb,hfb⟩:∃ b,b = (s.fault == 0):=⟨_,rfl⟩
  have t16:(s.fault == 0) = fb:=hfb.symm
  have HFB:=hide hfb
  clear h0 hc hk hfb q1 q2 q3 q4 q9
  go_enter Tryz.func118,Tryz.ntmps118
  go_upto_region 5 with fail
  go_region
  have X:=((h.bx.set (j:=4) (.int .i64 (max (s.fuse - 1) (-1))) rfl).set (j:=5) (.int .i64 (max (s.fault - 1) (-1))) rfl).oth (Oth.refl (sb + 1) _).drew (by omega)
  have O:=(((Oth.refl sb w).set 4 (.int .i64 (max (s.fuse - 1) (-1)))).set 5 (.int .i64 (max (s.fault - 1) (-1)))).drew
  generalize ((w.setCell ⟨sb,4,none⟩ (.int .i64 (max (s.fuse - 1) (-1)))).setCell ⟨sb,5,none⟩ (.int .i64 (max (s.fault - 1) (-1)))).drew = w3 at *
  have HX:=hide X
  clear X c4 c5 c6 f4 f5 f6
  cases fb with
  | true =>
    have he:s.fault = 0:=by have:=HFB.out;rw [eq_comm,beq_iff_eq] at this;exact this
    have HE:=hide he
    clear he t16 t8
    go_wp2_with fail
    go_ret
    rw [HC.out,if_pos HE.out]
    exact ⟨rfl,h.box O rfl HK.out HX.out,.ofOth O⟩
  | false =>
    have he:¬ s.fault = 0:=by have:=HFB.out;rw [eq_comm,beq_eq_false_iff_ne] at this;exact this
    have HE:=hide he
    clear he t16 t8
    go_wp2_with fail
    go_ret
    rw [HC.out,if_neg HE.out]
    exact ⟨rfl,h.box O rfl HK.out HX.out,.ofOth O⟩
theorem objHas (P:Nat → Prop) (w:World) (sb mb N:Nat) (s:So) (h:StR P w sb mb N s) (nm:ByteArray) (hn:nm.size ≤ maxLen):Calls Tryz.prog 117 #[.pointer (some ⟨sb,0,none⟩),.string nm] w fun e w' => e = .returned (.bool (mhas s.m nm)) ∧ Below w.heap.size w w':=by
 have c2:=h.bx.cell 2 _ rfl
 obtain ⟨D,hD⟩:=h.mp
 cases hg:mget s.m nm with
 | none =>
   have hk:=(hD.none hg hn).1
   have HM:Hid (mhas s.m nm = false):=hide (by unfold mhas;rw [hg];rfl)
   unfold zTh at hk
   clear hg hD
   go_enter Tryz.func117,Tryz.ntmps117
   go_wp2_with fail
   go_ret
   exact ⟨by rw [HM.out];rfl,(Below.refl _ _).alloc (Nat.le_refl _) _⟩
 | some t =>
   obtain ⟨A,c,hk,_,_⟩:=hD.some_ hg hn
   have HM:Hid (mhas s.m nm = true):=hide (by unfold mhas;rw [hg];rfl)
   clear hg hD
   go_enter Tryz.func117,Tryz.ntmps117
   go_wp2_with fail
   go_ret
   exact ⟨by rw [HM.out];rfl,(Below.refl _ _).alloc (Nat.le_refl _) _⟩
theorem objNew (P:Nat → Prop) (w:World) (q:Int) (q0 : -9223372036854775808 ≤ q) (q1:q ≤ 9223372036854775807) (hP:∀ k,P k → k < w.heap.size ∨ w.heap.size + 2 ≤ k):Calls Tryz.prog 9 #[.int .i64 q] w fun e w' => e = .returned (.pointer (some ⟨w.heap.size + 1,0,none⟩)) ∧ StR P w' (w.heap.size + 1) w.heap.size 0 (So.new q) ∧ Below w.heap.size w w' ∧ w'.heap.size = w.heap.size + 2:=by
 have hmm:=@run_makeMap Tryz.prog
 have hM:=mapR_new P w (fun hk => by have:=hP _ hk;omega)
 have hb1:=(Below.refl w.heap.size w).alloc (Nat.le_refl _) (.map #[] 0)
 have z1:(w.alloc (.map #[] 0)).heap.size = w.heap.size + 1:=by simp
 go_enter Tryz.func9,Tryz.ntmps9
 go_wp2_with fail
 generalize w.alloc (.map #[] 0) = w1 at *
 have x:=boxN_new w1 #[.int .i64 (max 0 q),.int .i64 0,.map (some w.heap.size),.string ⟨#[]⟩,.int .i64 (-1),.int .i64 (-1),.bool false] 106
 have hb2:=(Below.refl w1.heap.size w1).alloc (Nat.le_refl _) (.cells #[.int .i64 (max 0 q),.int .i64 0,.map (some w.heap.size),.string ⟨#[]⟩,.int .i64 (-1),.int .i64 (-1),.bool false] 106)
 have z2:(w1.alloc (.cells #[.int .i64 (max 0 q),.int .i64 0,.map (some w.heap.size),.string ⟨#[]⟩,.int .i64 (-1),.int .i64 (-1),.bool false] 106)).heap.size = w.heap.size + 2:=by simp;omega
 rw [z1] at x
 go_ret
 refine ⟨rfl,⟨x,⟨_,hM.keep hb2⟩,fun hk => by have:=hP _ hk;omega,by omega,?_⟩,below_call hb1 hb1.size hb2,z2⟩
 exact ⟨by show 0 ≤ max 0 q;omega,by show max 0 q ≤ _;omega,rfl,by show (0:Int) ≤ max 0 q;omega,(by show (-1:Int) ≤ -1;decide),(by show (-1:Int) ≤ 9223372036854775807;decide),(by show (-1:Int) ≤ -1;decide),(by show (-1:Int) ≤ 9223372036854775807;decide),List.Pairwise.nil⟩
end


theorem rdp_own {P:Nat → Prop} {w:World} {base n c:Nat} {A:Option Addr} {l:List UInt8} (h:w.ownsRow base 5 1 (.slice A n c) n (bytesV l)) (hi:∀ k,base ≤ k → P k):RdP w P A n c l:=by
 obtain ⟨A',c',q,hr⟩:=Rd.of_own h
 injection q with q1 q2 q3
 subst q1 q3
 refine ⟨hr,fun hn => ?_⟩
 obtain ⟨g,cap,q,hb,_⟩:=h.form hn
 injection q with q1 _ _
 exact ⟨g,0,q1,hi g hb⟩
/-- the map turned: what is left of a store -/
theorem StR.map2 {P:Nat → Prop} {w w':World} {sb mb N N2:Nat} {s:So} {m2:Mp} {D2:DataW Value} (h:StR P w sb mb N s) (hg:w.grownBy w' (some mb)) (hM:MapR P w' mb N2 m2 D2) :
 BoxN w' sb [.int .i64 s.quota,.int .i64 s.used,.map (some mb),.string s.cell,.int .i64 s.fuse,.int .i64 s.fault,.bool s.dead] ∧ (∃ D,MapR P w' mb N2 m2 D) ∧ ¬ P sb ∧ sb ≠ mb:=by
 have hbk:w'.heap[sb]? = w.heap[sb]?:=hg.block sb h.bx.z (by intro q;injection q with q;exact h.ne q)
 exact ⟨⟨fun j v hj => (World.cell?_of_block (w:=w) (a:=⟨sb,j,none⟩) hbk).trans (h.bx.cell j v hj),fun j hj => (World.frozen?_of_block (w:=w) (a:=⟨sb,j,none⟩) hbk).trans (h.bx.free j hj),Nat.lt_of_lt_of_le h.bx.z hg.size⟩,⟨D2,hM⟩,h.nP,h.ne⟩
theorem So.get_dead {s:So} (h:s.dead = true) (nm:ByteArray):s.get nm = ([],120):=by unfold So.get;rw [if_pos h]
theorem So.get_none {s:So} (h:s.dead = false) {nm:ByteArray} (hg:mget s.m nm = none):s.get nm = ([],2):=by unfold So.get;rw [if_neg (by rw [h];simp),hg]
theorem So.get_some {s:So} (h:s.dead = false) {nm:ByteArray} {t:Th} (hg:mget s.m nm = some t):s.get nm = (t.bs,0):=by unfold So.get;rw [if_neg (by rw [h];simp),hg]
theorem RdP.low {P:Nat → Prop} {w w':World} {A:Option Addr} {n c:Nat} {l:List UInt8} (h:RdP w P A n c l) (hb:Below w.heap.size w w'):RdP w' P A n c l:=h.keep hb.size fun _ _ hl => hb.cell hl
theorem RdP.ost {w w':World} {sb mb:Nat} {A:Option Addr} {n c:Nat} {l:List UInt8} (h:RdP w (fun k => k ≠ sb ∧ k ≠ mb) A n c l) (ho:Ost sb mb w w'):RdP w' (fun k => k ≠ sb ∧ k ≠ mb) A n c l:=h.keep ho.size fun _p hp hl => ho.cell hl hp.1 hp.2
theorem addEnd {P:Nat → Prop} {w:World} {sb mb N:Nat} {s:So} {nm:ByteArray} {bs:List UInt8} (hx:BoxN w sb [.int .i64 s.quota,.int .i64 s.used,.map (some mb),.string s.cell,.int .i64 s.fuse,.int .i64 s.fault,.bool s.dead]) (hD:∃ D,MapR P w mb N (mput s.m nm ⟨bs,true⟩) D) (h1:¬ P sb) (h2:sb ≠ mb) (hk:(s.add nm bs).ok) :
 StR P (w.setCell ⟨sb,1,none⟩ (.int .i64 (s.used + (bs.length:Int)))) sb mb N (s.add nm bs):=by
 obtain ⟨D,hD⟩:=hD
 have ho:=(Oth.refl sb w).set 1 (.int .i64 (s.used + (bs.length:Int)))
 exact ⟨hx.set (j:=1) (.int .i64 (s.used + (bs.length:Int))) rfl,⟨D,hD.move ho.size (ho.block mb hD.lt (fun q => h2 q.symm)) (fun p hp hl => ho.cell hl (fun q => h1 (by rw [← q];exact hp)))⟩,h1,h2,hk⟩
def GetEnd (w:World) (r:List UInt8 × Nat) (e:Ending) (w':World):Prop :=
 Below w.heap.size w w' ∧ ∃ A c,e = .returned (.tuple #[.slice A r.1.length c,.int .i64 (r.2:Int)]) ∧ w'.ownsRow w.heap.size 5 1 (.slice A r.1.length c) r.1.length (bytesV r.1)
set_option maxHeartbeats 2000000 in
theorem objGet (P:Nat → Prop) (w:World) (sb mb N:Nat) (s:So) (h:StR P w sb mb N s) (nm:ByteArray) (hn:nm.size ≤ maxLen) (hl:∀ t,mget s.m nm = some t → t.bs.length ≤ 1000000):Calls Tryz.prog 47 #[.pointer (some ⟨sb,0,none⟩),.string nm] w (GetEnd w (s.get nm)):=by
 have c2:=h.bx.cell 2 _ rfl
 have c6:=h.bx.cell 6 _ rfl
 obtain ⟨D,hD⟩:=h.mp
 cases hd:s.dead with
 | true =>
   rw [hd] at c6
   have HG:=hide (So.get_dead hd nm)
   clear hd hD h
   go_enter Tryz.func47,Tryz.ntmps47
   go_wp2_with fail
   go_ret2
   rw [HG.out]
   exact ⟨Below.refl _ _,none,0,rfl,World.ownsRow_nil _ _ _ _⟩
 | false =>
   rw [hd] at c6
   cases hg:mget s.m nm with
   | none =>
     have hk:=(hD.none hg hn).1
     have HG:=hide (So.get_none hd hg)
     unfold zTh at hk
     clear hg hD hd h
     go_enter Tryz.func47,Tryz.ntmps47
     go_wp2_with fail
     go_ret2
     rw [HG.out]
     exact ⟨(Below.refl _ _).alloc (Nat.le_refl _) _,none,0,rfl,World.ownsRow_nil _ _ _ _⟩
   | some t =>
     obtain ⟨A,c,hk,_,hr⟩:=hD.some_ hg hn
     have HG:=hide (So.get_some hd hg)
     have hlt:=hl t hg
     have hb1:=(Below.refl w.heap.size w).alloc (Nat.le_refl _) (.cells #[.slice A t.bs.length c,.bool t.loose] 131)
     have hr1:=(hr.rd.below hb1).more hb1.size
     have y:=boxN_new w #[.slice A t.bs.length c,.bool t.loose] 131
     have y0:=y.cell 0 _ rfl
     clear hg hD hd h hr y hl
     go_enter Tryz.func47,Tryz.ntmps47
     go_wp2_with fail
     generalize w.alloc (.cells #[.slice A t.bs.length c,.bool t.loose] 131) = w1 at *
     refine (cloneBytes w1 w1.heap.size _ c A _ hr1 (bytesV_one _) (by omega) (Nat.le_refl _)).mono ?_
     rintro e w2 ⟨v2,rfl,hown2,hb2⟩
     obtain ⟨A2,c2,rfl⟩:=own_slice hown2
     go_wp2_with fail
     go_ret2
     rw [HG.out]
     exact ⟨below_call hb1 hb1.size hb2,A2,c2,rfl,own_base hown2 hb1.size⟩
theorem So.put_dead {s:So} (h:s.dead = true) (nm:ByteArray) (bs:List UInt8):s.put nm bs = (s,120):=by unfold So.put;rw [if_pos h]
theorem So.put_name {s:So} (h:s.dead = false) {nm:ByteArray} (h1:pathOk nm = false) (bs:List UInt8):s.put nm bs = (s,1):=by unfold So.put;rw [if_neg (by rw [h];simp),if_pos h1]
theorem So.put_there {s:So} (h:s.dead = false) {nm:ByteArray} (h1:pathOk nm = true) (h2:mhas s.m nm = true) (bs:List UInt8):s.put nm bs = (s,3):=by unfold So.put;rw [if_neg (by rw [h];simp),if_neg (by rw [h1];simp),if_pos h2]
theorem So.put_long {s:So} (h:s.dead = false) {nm:ByteArray} (h1:pathOk nm = true) (h2:mhas s.m nm = false) {bs:List UInt8} (h3:65536 < bs.length):s.put nm bs = (s,5):=by unfold So.put;rw [if_neg (by rw [h];simp),if_neg (by rw [h1];simp),if_neg (by rw [h2];simp),if_pos h3]
theorem So.put_quota {s:So} (h:s.dead = false) {nm:ByteArray} (h1:pathOk nm = true) (h2:mhas s.m nm = false) {bs:List UInt8} (h3:¬ 65536 < bs.length) (h4:s.quota - s.used < bs.length):s.put nm bs = (s,122):=by unfold So.put;rw [if_neg (by rw [h];simp),if_neg (by rw [h1];simp),if_neg (by rw [h2];simp),if_neg h3,if_pos h4]
theorem So.put_on {s:So} (h:s.dead = false) {nm:ByteArray} (h1:pathOk nm = true) (h2:mhas s.m nm = false) {bs:List UInt8} (h3:¬ 65536 < bs.length) (h4:¬ s.quota - s.used < bs.length):s.put nm bs = if s.change.2 = 121 then s.change else (s.change.1.add nm bs,s.change.2):=by unfold So.put;rw [if_neg (by rw [h];simp),if_neg (by rw [h1];simp),if_neg (by rw [h2];simp),if_neg h3,if_neg h4]
set_option maxHeartbeats 4000000 in
theorem objPut (P:Nat → Prop) (w:World) (sb mb N:Nat) (s:So) (h:StR P w sb mb N s) (hP:∀ k,w.heap.size ≤ k → P k) (hN:N ≤ 1000000) (nm:ByteArray) (hn:nm.size ≤ maxLen) (A:Option Addr) (c:Nat) (bs:List UInt8) (hr:RdP w (fun k => k ≠ sb ∧ k ≠ mb) A bs.length c bs) :
 Calls Tryz.prog 78 #[.pointer (some ⟨sb,0,none⟩),.string nm,.slice A bs.length c] w (StEndO P w sb mb (N + 1) (s.put nm bs)):=by
 have c6:=h.bx.cell 6 _ rfl
 have hbl:bs.length ≤ 9223372036854775807:=by have h1:=hr.rd.le;have h2:=hr.rd.cap;unfold maxLen at h2;omega
 cases hd:s.dead with
 | true =>
   rw [hd] at c6
   have HG:=hide (So.put_dead hd nm bs)
   clear hd
   go_enter Tryz.func78,Tryz.ntmps78
   go_wp2_with fail
   go_ret
   rw [HG.out]
   exact ⟨rfl,h.mono (Nat.le_succ _),Ost.refl _ _ _⟩
 | false =>
 rw [hd] at c6
 have HD:=hide hd
 clear hd
 go_enter Tryz.func78,Tryz.ntmps78
 go_wp2_with fail
 refine (objNamed w nm).mono ?_
 rintro e w1 ⟨rfl,hb1⟩
 have h1:=h.keep hb1
 have hP1:∀ k,w1.heap.size ≤ k → P k:=fun k hk => hP k (Nat.le_trans hb1.size hk)
 have hr1:=hr.low hb1
 clear c6 h hr
 cases hp:pathOk nm with
 | false =>
   have HG:=hide (So.put_name HD.out hp bs)
   clear hp
   go_wp2_with fail
   go_ret
   rw [HG.out]
   exact ⟨rfl,h1.mono (Nat.le_succ _),.of hb1⟩
 | true =>
 have HP:=hide hp
 clear hp
 go_wp2_with fail
 refine (objHas P w1 sb mb N s h1 nm hn).mono ?_
 rintro e w2 ⟨rfl,hb2⟩
 have h2:=h1.keep hb2
 have hP2:∀ k,w2.heap.size ≤ k → P k:=fun k hk => hP1 k (Nat.le_trans hb2.size hk)
 have hr2:=hr1.low hb2
 have hb12:=below_call hb1 hb1.size hb2
 clear h1 hr1 hb1 hb2 hP1
 clear w1
 cases hh:mhas s.m nm with
 | true =>
   have HG:=hide (So.put_there HD.out HP.out hh bs)
   clear hh
   go_wp2_with fail
   go_ret
   rw [HG.out]
   exact ⟨rfl,h2.mono (Nat.le_succ _),.of hb12⟩
 | false =>
 have HH:=hide hh
 clear hh
 by_cases hlong:65536 < bs.length
 ·have t24:decide ((65536:Int) < (bs.length:Int)) = true:=decide_eq_true (by omega)
  have HG:=hide (So.put_long HD.out HP.out HH.out hlong)
  clear hlong
  go_wp2_with fail
  go_ret
  rw [HG.out]
  exact ⟨rfl,h2.mono (Nat.le_succ _),.of hb12⟩
 have t24:decide ((65536:Int) < (bs.length:Int)) = false:=decide_eq_false (by omega)
 have HLG:=hide hlong
 have hbl6:bs.length ≤ 65536:=by omega
 clear hlong
 obtain ⟨q1,q2,q3,q4,q5,q6,q7,q8,q9⟩:=h2.ok
 have w36:wrap64 (s.quota - s.used) = s.quota - s.used:=IntWalk.wrap64_in _ ⟨by omega,by omega⟩
 have c0:=h2.bx.cell 0 _ rfl
 have c1:=h2.bx.cell 1 _ rfl
 have hu0:0 ≤ s.used:=by omega
 clear q3 q5 q6 q7 q8 q9
 obtain ⟨qb,hqb⟩:∃ b,b = decide (s.quota - s.used < (bs.length:Int)):=⟨_,rfl⟩
 have t37:decide (s.quota - s.used < (bs.length:Int)) = qb:=hqb.symm
 have HQB:=hide hqb
 clear hqb
 go_upto_region 9 with fail
 go_quiet (fail)
 generalize hwD:w2.drewN nq = w2d at *
 have h2d:StR P w2d sb mb N s:=by rw [← hwD];exact h2.keep (below_dN (Below.refl _ _) _)
 have hb12d:Below w.heap.size w w2d:=by rw [← hwD];exact below_dN hb12 _
 have hr2d:RdP w2d (fun k => k ≠ sb ∧ k ≠ mb) A bs.length c bs:=by rw [← hwD];exact hr2.low (below_dN (Below.refl _ _) _)
 have hP2d:∀ k,w2d.heap.size ≤ k → P k:=fun k hk => hP2 k (by rw [← hwD] at hk;exact hk)
 clear hwD h2 hb12 hr2 hP2 c0 c1 w36
 clear w2
 cases qb with
 | true =>
   have HG:=hide (So.put_quota HD.out HP.out HH.out HLG.out (of_decide_eq_true HQB.out.symm))
   clear t37
   go_wp2_with fail
   go_ret
   rw [HG.out]
   exact ⟨rfl,h2d.mono (Nat.le_succ _),.of hb12d⟩
 | false =>
 have hroom:¬ s.quota - s.used < (bs.length:Int):=of_decide_eq_false HQB.out.symm
 have HG:=hide (So.put_on HD.out HP.out HH.out HLG.out hroom)
 have HRM:=hide hroom
 clear t37 hroom
 go_wp2_with fail
 refine (objChange P w2d sb mb N s h2d).mono ?_
 rintro e w3 ⟨rfl,h3,O3⟩
 have O3w:=(Ost.of (sb:=sb) (mb:=mb) hb12d).trans O3
 have hP3:∀ k,w3.heap.size ≤ k → P k:=fun k hk => hP2d k (Nat.le_trans O3.size hk)
 obtain ⟨⟨s3,er⟩,hr3⟩:∃ r,s.change = r:=⟨_,rfl⟩
 have hs3:s3.m = s.m ∧ s3.used = s.used ∧ s3.quota = s.quota:=by have:=So.change_m s;have:=So.change_used s;have:=So.change_quota s;rw [hr3] at *;exact ⟨by assumption,by assumption,by assumption⟩
 have HR3:=hide hr3
 have HS3:=hide hs3
 rw [hr3] at h3 ⊢
 have HG2:Hid (s.put nm bs = if er = 121 then (s3,er) else (s3.add nm bs,er)):=hide (by rw [HG.out,hr3])
 dsimp only at h3 ⊢
 have hrow:=hr2d.ost O3
 clear hr2d h2d hb12d hP2d hr3 hs3
 by_cases h121:er = 121
 ·subst h121
  have HF:=hide (HG2.out.trans (if_pos rfl))
  go_wp2_with fail
  go_ret
  rw [HF.out]
  exact ⟨rfl,h3.mono (Nat.le_succ _),O3w⟩
 have HF:=hide (HG2.out.trans (if_neg h121))
 have t41:((er:Int) != 121) = true:=by rw [bne_iff_ne];omega
 have hok:(s3.add nm bs).ok:=h3.ok.add (by
  rw [HS3.out.1]
  have:=HH.out
  unfold mhas at this
  cases hq:mget s.m nm with
  | none => rfl
  | some t => rw [hq] at this;cases this) (by rw [HS3.out.2.1,HS3.out.2.2];have:=HRM.out;omega)
 have HOK:=hide hok
 have hud:0 ≤ s3.used ∧ s3.used + (bs.length:Int) ≤ 9223372036854775807:=by
  have a:=HS3.out.2.1
  have b:=HRM.out
  have d:=h3.ok.uq
  have d2:=h3.ok.q1
  have d3:=HS3.out.2.2
  constructor
  ·omega
  ·omega
 have w56:wrap64 (s3.used + (bs.length:Int)) = s3.used + (bs.length:Int):=IntWalk.wrap64_in _ ⟨by omega,by omega⟩
 have hrD:=(hrow.low (Below.refl _ w3).drew).rd
 have h3d:=h3.drew
 have k2:=h3d.bx.cell 2 _ rfl
 have HO3:=hide O3w.drew
 clear h121 hok O3 O3w hrow hud
 go_upto_region 13 with fail
 refine wp_region_held_drew (S:=(fun w' => w'.cell? ⟨sb,2,none⟩ = some (.map (some mb)))) (by kernel_rfl) ?_ (fun hHeld => ?_)
 ·exact k2
 refine wpAnyH_take (i:=0) (v:=?_) rfl (by kernel_rfl) (by kernel_rfl) (by kernel_rfl) (fun _ _ _ h => h) (Or.inl ⟨by rfl,?_⟩) hHeld ?_
 rotate_left 1
 ·(intro w' hSw;go_simp;first | done | with_reducible rfl)
 (try simp only [Act.put,zA0])
 refine wpAnyH_take (i:=1) (v:=?_) rfl (by kernel_rfl) (by kernel_rfl) (by kernel_rfl) (fun _ _ _ h => h) (Or.inl ⟨by rfl,?_⟩) hHeld ?_
 rotate_left 1
 ·(intro w' hSw;go_simp;first | done | with_reducible rfl)
 (try simp only [Act.put])
 refine wpAnyH_take (i:=2) (v:=?_) rfl (by kernel_rfl) (by kernel_rfl) (by kernel_rfl) (fun _ _ _ h => h) (Or.inl ⟨by rfl,?_⟩) hHeld ?_
 rotate_left 1
 ·(intro w' hSw;go_simp;first | done | with_reducible rfl)
 (try simp only [Act.put])
 refine wpAnyH_take (i:=3) (v:=?_) rfl (by kernel_rfl) (by kernel_rfl) (by kernel_rfl) (fun _ _ _ h => h) (Or.inl ⟨by rfl,?_⟩) hHeld ?_
 rotate_left 1
 ·(intro w' hSw;have q2:w'.cell? ⟨sb,2,none⟩ = some (.map (some mb)):=hSw;go_simp;first | done | with_reducible rfl)
 (try simp only [Act.put])
 refine wpAnyH_take (i:=4) (v:=?_) rfl (by kernel_rfl) (by kernel_rfl) (by kernel_rfl) (fun _ _ _ h => h) (Or.inl ⟨by rfl,?_⟩) hHeld ?_
 rotate_left 1
 ·(intro w' hSw;go_simp;first | done | with_reducible rfl)
 (try simp only [Act.put])
 refine wpAnyH_take (i:=5) (v:=?_) rfl (by kernel_rfl) (by kernel_rfl) (by kernel_rfl) (fun _ _ _ h => h) (Or.inl ⟨by rfl,?_⟩) hHeld ?_
 rotate_left 1
 ·(intro w' hSw;go_simp;first | done | with_reducible rfl)
 (try simp only [Act.put])
 refine wpAnyH_ready (rs:=[6]) (by kernel_rfl) (by simp) ?_
 refine AllReadyH.cons rfl (fun K hK => ?_) AllReadyH.nil
 go_simp
 go_at_call 107
 refine (cloneBytes w3.drew w3.drew.heap.size _ c A _ hrD (bytesV_one _) (by omega) (Nat.le_refl _)).mono ?_
 rintro e w4 ⟨v4,rfl,hown4,hb4⟩
 obtain ⟨A4,c4,rfl⟩:=own_slice hown4
 have h4:=h3d.keep hb4
 have k4:=h4.bx.cell 2 _ rfl
 have hr4:=rdp_own hown4 (fun k hk => hP3 k hk)
 obtain ⟨D4,hD4⟩:=h4.mp
 obtain ⟨w5,D5,hrun,hD5,hg5⟩:=hD4.put (lo:=true) (s:=nm) hN hn hr4
 have hk5:({ s3 with m:=mput s3.m nm ⟨bs,true⟩ }:So).m = mput s3.m nm ⟨bs,true⟩:=rfl
 have h5:=h4.map2 hg5 hD5
 have k5:=h5.1.cell 2 _ rfl
 have HO5:=hide ((HO3.out.trans (.of hb4)).trans (Ost.map hg5))
 have H5:=hide h5
 clear h5 h4 hown4 hb4 hD4 hD5 hg5 hr4 hk5
 refine hK.out _ _ k4 (fun hHeld => ?_)
 clear hK K
 (try simp only [Act.put,zA0,zB0,zC0])
 refine wpAnyH_take (i:=7) (v:=?_) rfl (by kernel_rfl) (by kernel_rfl) (by kernel_rfl) (fun _ _ _ h => h) (Or.inl ⟨by rfl,?_⟩) hHeld ?_
 rotate_left 1
 ·(intro w' hSw;go_simp;first | done | with_reducible rfl)
 (try simp only [Act.put,zA0])
 refine wpAnyH_ready (rs:=[8]) (by kernel_rfl) (by simp) ?_
 refine AllReadyH.cons rfl (fun K hK => ?_) AllReadyH.nil
 go_simp
 refine hK.out _ _ k5 (fun hHeld => ?_)
 clear hK K
 (try simp only [Act.put,zA0,zB0,zC0])
 refine wpAnyH_done (by kernel_rfl) ?_ _
 obtain ⟨hx5,hD5,hn5,hne5⟩:=H5.out
 have k1:=hx5.cell 1 _ rfl
 have f1:=hx5.free 1 (by simp)
 clear k4 k5 k2 h3 h3d hrD
 go_wp2_with fail
 go_ret
 rw [HF.out]
 exact ⟨rfl,addEnd hx5 hD5 hn5 hne5 HOK.out,HO5.out.trans (.ofOth ((Oth.refl sb _).set 1 _))⟩
end Go.Proofs.YtpfofefecamkfaaGreatDoor
