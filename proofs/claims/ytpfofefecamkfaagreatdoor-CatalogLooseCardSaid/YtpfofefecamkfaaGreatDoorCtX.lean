/- THE WALK of the catalog's entries. No statement of the seat is proved here; no condition but sizes. -/
import Derived.Test.YtpfofefecamkfaaGreatDoorCtB
namespace Go.Proofs.YtpfofefecamkfaaGreatDoor
open Go.RowKit

/-- what bytes say as entries: small things alone -/
structure EnOk (l:List En):Prop where
 len:l.length ≤ 64
 nm:∀ x ∈ l,x.name.size ≤ 24 ∧ x.stats.length ≤ 8
theorem opE_ok (b:List UInt8):EnOk (opE b).2:=by
 unfold opE
 split
 ·exact ⟨Nat.zero_le _,fun x hx => (List.not_mem_nil hx).elim⟩
 split
 ·exact ⟨Nat.zero_le _,fun x hx => (List.not_mem_nil hx).elim⟩
 split
 ·exact ⟨Nat.zero_le _,fun x hx => (List.not_mem_nil hx).elim⟩
 split
 ·rename_i t _ _ _ h
  have h1:=h.1
  unfold errE at h1
  split at h1
  ·omega
  rename_i h2
  split at h1
  ·rename_i h3
   refine ⟨by show (ents t).1.length ≤ 64;omega,fun x hx => ?_⟩
   have h4:=right_hasE (allE_has h3 x hx)
   exact ⟨(pathE_le h4.1).2,h4.2.2.2.2.2.1⟩
  ·omega
 ·exact ⟨Nat.zero_le _,fun x hx => (List.not_mem_nil hx).elim⟩
theorem flatten_le:∀ (L:List (List En)),(∀ l ∈ L,l.length ≤ 64) → L.flatten.length ≤ L.length * 64
 | [],_ => by simp
 | a :: L,h => by
   have h1:=flatten_le L (fun l hl => h l (List.mem_cons_of_mem _ hl))
   have h2:=h a (List.mem_cons_self ..)
   rw [List.flatten_cons,List.length_append,List.length_cons]
   omega
theorem tyLls:STy Tryz.prog 100 46 1 24 (.slice none 0 0):=⟨Tryz.underlying100,by kernel_rfl,rfl,by decide,by decide⟩
theorem OwnE.grown {w w':World} {B c:Nat} {A:Option Addr} {l:List El} (h:OwnE w B A c l) {base n:Nat} {v:Value} {xs:List Value} (ho:w.ownsRow base 46 1 v n xs) (hg:w.grownBy w' v.ownBlock):OwnE w' B A c l :=
 ⟨own_grown h.own ho hg (by decide),fun x hx => own_grown (h.ins x hx) ho hg (by decide)⟩
/-- entries, one's own, with an error -/
def EntEnd (w:World) (r:List En × Nat) (e:Ending) (w':World):Prop :=
 ∃ A k,∃ out:List El,e = .returned (.tuple #[.slice A out.length k,.int .i64 (r.2:Int)]) ∧ OwnE w' w.heap.size A k out ∧ out.map El.p = r.1 ∧ Below w.heap.size w w'
theorem ents_get {s:So} {nm:ByteArray} {r:List ByteArray} {acc:List (List En)} (h:(s.get nm).2 ≠ 0):s.ents (nm :: r) acc = ([],(s.get nm).2):=by show (if _ then _ else _) = _;rw [if_pos h]
theorem ents_open {s:So} {nm:ByteArray} {r:List ByteArray} {acc:List (List En)} (h:(s.get nm).2 = 0) (h2:(opE (s.get nm).1).1 ≠ 0):s.ents (nm :: r) acc = ([],(opE (s.get nm).1).1):=by show (if _ then _ else _) = _;rw [if_neg (by rw [h];simp),if_pos h2]
theorem ents_on {s:So} {nm:ByteArray} {r:List ByteArray} {acc:List (List En)} (h:(s.get nm).2 = 0) (h2:(opE (s.get nm).1).1 = 0):s.ents (nm :: r) acc = s.ents r (acc ++ [(opE (s.get nm).1).2]):=by show (if _ then _ else _) = _;rw [if_neg (by rw [h];simp),if_neg (by rw [h2];simp)]
theorem entries_bad {s:So} {ms:List ByteArray} {e:Nat} (h:s.ents ms [] = ([],e)) (h0:e ≠ 0):s.entries ms = ([],e):=by unfold So.entries;rw [h,if_pos h0]
theorem entries_on {s:So} {ms:List ByteArray} {L:List (List En)} (h:s.ents ms [] = (L,0)):s.entries ms = (mergeE L,0):=by unfold So.entries;rw [h];rfl
set_option maxRecDepth 100000 in
set_option maxHeartbeats 4000000 in
theorem catEntries (M:Nat → Prop) (w:World) (sb mb cb K:Nat) (s:So) (h:Env M w sb mb K s) (c0:w.cell? ⟨cb,0,none⟩ = some (.pointer (some ⟨sb,0,none⟩))) (hcb:cb < w.heap.size)
 (p:Sn) (A:Option Addr) (k:Nat) (hr:RdQ w (fun k => ¬ M k) 1 A p.ms.length k (strsV p.ms)) (hm:p.ms.length ≤ 8) (hn:∀ x ∈ p.ms,x.size ≤ 24) :
 Calls Tryz.prog 74 #[.pointer (some ⟨cb,0,none⟩),.agg #[.int .u64 (p.id.toNat:Int),.int .u64 (p.par.toNat:Int),.int .u64 (p.seq.toNat:Int),.int .u64 (p.off.toNat:Int),.int .u64 (p.tim.toNat:Int),.int .u32 (p.sch.toNat:Int),.slice A p.ms.length k]] w (EntEnd w (s.entries p.ms)):=by
 have HE:=hide (And.intro h hr)
 have C0:=hide c0
 clear h hr
 have hbA:=(Below.refl w.heap.size w).alloc (Nat.le_refl _) (.cells #[.int .u64 (p.id.toNat:Int),.int .u64 (p.par.toNat:Int),.int .u64 (p.seq.toNat:Int),.int .u64 (p.off.toNat:Int),.int .u64 (p.tim.toNat:Int),.int .u32 (p.sch.toNat:Int),.slice A p.ms.length k] 43)
 have y:=boxN_new w #[.int .u64 (p.id.toNat:Int),.int .u64 (p.par.toNat:Int),.int .u64 (p.seq.toNat:Int),.int .u64 (p.off.toNat:Int),.int .u64 (p.tim.toNat:Int),.int .u32 (p.sch.toNat:Int),.slice A p.ms.length k] 43
 have y6:=y.cell 6 _ rfl
 obtain ⟨ms,hms⟩:∃ ms,p.ms = ms:=⟨_,rfl⟩
 rw [hms] at hm hn y6 HE hbA ⊢
 rw [hms] at y
 clear y
 go_enter Tryz.func74,Tryz.ntmps74
 go_upto_region 3 with fail
 generalize w.alloc (.cells #[.int .u64 (p.id.toNat:Int),.int .u64 (p.par.toNat:Int),.int .u64 (p.seq.toNat:Int),.int .u64 (p.off.toNat:Int),.int .u64 (p.tim.toNat:Int),.int .u32 (p.sch.toNat:Int),.slice A ms.length k] 43) = w1 at *
 clear y6
 go_loopw [6,15] (fun v6 iv wr => ∃ (i:Nat) (oA:Option Addr) (oc:Nat) (out:List Ll),v6 = .slice oA out.length oc ∧ iv = .int .i64 (i:Int) ∧ i ≤ ms.length ∧ out.length ≤ i ∧ Hid (s.ents ms [] = s.ents (ms.drop i) (out.map fun x => x.l.map El.p)) ∧ wr.ownsRow w.heap.size 46 1 (.slice oA out.length oc) out.length (llsV out) ∧ Hid (∀ x ∈ out,OwnE wr w.heap.size x.A x.c x.l ∧ EnOk (x.l.map El.p)) ∧ Below w.heap.size w wr) (fun _ iv _ => ms.length - (intOf iv).toNat)
 case atStart => exact ⟨0,none,0,[],rfl,rfl,Nat.zero_le _,Nat.le_refl _,hide rfl,World.ownsRow_nil _ _ _ _,hide (by simp),hbA⟩
 case round =>
  clear hbA
  obtain ⟨i,oA,oc,out,rfl,rfl,hi,hol,hen,hown,hins,hbr⟩:=hrel
  by_cases hlt:i < ms.length
  ·obtain ⟨nm,hnm⟩:∃ nm,ms.getD i ByteArray.empty = nm:=⟨_,rfl⟩
   have hnk:ms[i]? = some nm:=by rw [← hnm,List.getD_eq_getElem?_getD,List.getElem?_eq_getElem hlt];rfl
   have hdr:ms.drop i = nm :: ms.drop (i + 1):=by
    rw [List.drop_eq_getElem_cons hlt]
    rw [List.getElem?_eq_getElem hlt] at hnk
    injection hnk with hnk
    rw [hnk]
   obtain ⟨b,off,rfl,hb,hc⟩:=(HE.out.2.low hbr).rd.at_ (by omega)
   have hcell:=hc i (.string nm) (by unfold strsV;rw [List.getElem?_map,hnk];rfl)
   have hnz:=hn nm (List.mem_of_getElem? hnk)
   have hEr:=HE.out.1.low hbr
   obtain ⟨N,hN,hS⟩:=hEr.st
   have c0r:=(hbr.cell (p:=⟨cb,0,none⟩) hcb).trans C0.out
   have hget:=objGet _ wr sb mb N s hS nm (by unfold maxLen;omega) (small_at hEr.fit.sm)
   have hgl:=get_len hEr.fit nm
   have HEN:Hid (s.ents ms [] = s.ents (nm :: ms.drop (i + 1)) (out.map fun x => x.l.map El.p)):=hide (by rw [← hdr];exact hen.out)
   obtain ⟨r,hr⟩:∃ r,s.get nm = r:=⟨_,rfl⟩
   rw [hr] at hget hgl
   obtain ⟨bs,e2⟩:=r
   dsimp only at hgl
   have HR:=hide hr
   have HEr:=hide hEr
   clear hc hb hnk hnm hdr hr hen hS hEr
   go_wp2_with fail
   refine hget.mono ?_
   rintro e w2 ⟨hb2,A2,k2,rfl,hown2⟩
   dsimp only at hown2 ⊢
   have hr2:=rd_own hown2
   have hE2:=HEr.out.low hb2
   have hbr2:=below_call hbr hbr.size hb2
   have hownA:=own_below hown hb2
   have hinsA:Hid (∀ x ∈ out,OwnE w2 w.heap.size x.A x.c x.l ∧ EnOk (x.l.map El.p)):=hide fun x hx => ⟨(hins.out x hx).1.keep hb2,(hins.out x hx).2⟩
   clear hown2 hget hcell c0r hown hins hbr
   by_cases h0:e2 = 0
   ·subst h0
    have hop:=entOpen w2 A2 k2 bs hr2 hE2.tb.crc (by omega)
    have hok:=opE_ok bs
    clear hr2 hE2
    go_wp2_with fail
    refine hop.mono ?_
    rintro e w3 ⟨hb3,A3,k3,ls,rfl,hls,_,hO3⟩
    obtain ⟨o,ho⟩:∃ o,opE bs = o:=⟨_,rfl⟩
    rw [ho] at hls hok ⊢
    obtain ⟨e4,L⟩:=o
    dsimp only at hls hok ⊢
    have hbr3:=below_call hbr2 hbr2.size hb3
    have hownB:=own_below hownA hb3
    have hinsB:Hid (∀ x ∈ out,OwnE w3 w.heap.size x.A x.c x.l ∧ EnOk (x.l.map El.p)):=hide fun x hx => ⟨(hinsA.out x hx).1.keep hb3,(hinsA.out x hx).2⟩
    have hO3b:=hO3.base (B2:=w.heap.size) hbr2.size
    clear hop hownA hinsA hO3 hb3 hbr2
    by_cases h4:e4 = 0
    ·subst h4
     have hen4:Hid (s.ents ms [] = s.ents (ms.drop (i + 1)) ((out ++ [(⟨ls,A3,k3⟩:Ll)]).map fun x:Ll => x.l.map El.p)):=hide (by
      rw [HEN.out,ents_on (by rw [HR.out]) (by rw [HR.out];show (opE bs).1 = 0;rw [ho]),HR.out]
      show s.ents _ (_ ++ [(opE bs).2]) = _
      rw [ho,List.map_append]
      show s.ents _ (_ ++ [L]) = s.ents _ (_ ++ [ls.map El.p])
      rw [hls])
     have hbL:=(Below.refl w3.heap.size w3).alloc (Nat.le_refl _) (.cells #[.slice A3 ls.length k3] 46)
     have hom:=own_below hownB hbL
     have hrL:Rd (w3.alloc (.cells #[.slice A3 ls.length k3] 46)) (w3.heap.size + 1) 1 (some ⟨w3.heap.size,0,none⟩) 1 1 (llV ⟨ls,A3,k3⟩):=Rd.lit (n:=1) (sz:=1) w3 46 #[.slice A3 ls.length k3] rfl (by unfold maxLen;omega)
     have hz6:w.heap.size ≤ (w3.alloc (.cells #[.slice A3 ls.length k3] 46)).heap.size:=Nat.le_trans hbr3.size hbL.size
     have HB:=hide (below_call hbr3 hbr3.size hbL)
     have HI:Hid (∀ x ∈ out ++ [(⟨ls,A3,k3⟩:Ll)],OwnE (w3.alloc (.cells #[.slice A3 ls.length k3] 46)) w.heap.size x.A x.c x.l ∧ EnOk (x.l.map El.p)):=hide (fun x hx => by
      rcases List.mem_append.1 hx with hx | hx
      ·exact ⟨(hinsB.out x hx).1.keep hbL,(hinsB.out x hx).2⟩
      ·rw [List.mem_singleton.1 hx]
       exact ⟨hO3b.keep hbL,by show EnOk (ls.map El.p);rw [hls];exact hok⟩)
     clear ho hok hls hownB hinsB hO3b hbL hbr3
     go_wp2_with (at_builtin;refine wpList_app _ tyLls rfl (.tmp 39) (.tmp 41) rfl w.heap.size _ out.length (llsV out) rfl hom (w3.heap.size + 1) _ 1 1 (llV ⟨ls,A3,k3⟩) rfl hrL (fun u hu => by rw [List.mem_singleton.1 hu];rfl) (by omega) hz6 ?_;intro v8 w8 hown8 hg8 _)
     have hb8:=below_app HB.out (Nat.le_refl _) hom hg8 hz6
     have e1:(out ++ [(⟨ls,A3,k3⟩:Ll)]).length = out.length + 1:=by simp
     have e2:llsV (out ++ [(⟨ls,A3,k3⟩:Ll)]) = llsV out ++ llV ⟨ls,A3,k3⟩:=by simp [llsV]
     obtain ⟨g,cap,rfl,_,_⟩:=hown8.form (by omega)
     have hown9:w8.ownsRow w.heap.size 46 1 (.slice (some ⟨g,0,none⟩) (out ++ [(⟨ls,A3,k3⟩:Ll)]).length cap) (out ++ [(⟨ls,A3,k3⟩:Ll)]).length (llsV (out ++ [(⟨ls,A3,k3⟩:Ll)])):=by rw [e1,e2];exact hown8
     have HI9:=hide (show ∀ x ∈ out ++ [(⟨ls,A3,k3⟩:Ll)],OwnE w8 w.heap.size x.A x.c x.l ∧ EnOk (x.l.map El.p) from fun x hx => ⟨(HI.out x hx).1.grown hom hg8,(HI.out x hx).2⟩)
     rw [← e1]
     clear hown8 hg8 hom hrL
     go_wp2_with fail
     go_roundw
     case rel => exact ⟨i + 1,some ⟨g,0,none⟩,cap,out ++ [⟨ls,A3,k3⟩],rfl,by go_num,hlt,by rw [e1];omega,hen4,hown9,HI9,hb8⟩
     case measure => simp [intOf];omega
    ·have t37:((e4:Int) != 0) = true:=by rw [bne_iff_ne];omega
     have HG:=hide (entries_bad (s:=s) (ms:=ms) (e:=e4) (by rw [HEN.out,ents_open (by rw [HR.out]) (by rw [HR.out];show (opE bs).1 ≠ 0;rw [ho];exact h4),HR.out];show ([],(opE bs).1) = _;rw [ho]) h4)
     clear h4 ho hok hls hownB hinsB hO3b
     go_wp2_with fail
     go_ret2
     rw [HG.out]
     exact ⟨none,0,[],rfl,OwnE.nil _ _,rfl,hbr3⟩
   ·have t29:((e2:Int) != 0) = true:=by rw [bne_iff_ne];omega
    have HG:=hide (entries_bad (s:=s) (ms:=ms) (e:=e2) (by rw [HEN.out,ents_get (by rw [HR.out];exact h0),HR.out]) h0)
    clear h0 hr2 hE2 hownA hinsA
    go_wp2_with fail
    go_ret2
    rw [HG.out]
    exact ⟨none,0,[],rfl,OwnE.nil _ _,rfl,hbr2⟩
  ·have hil:i = ms.length:=by omega
   have HG:=hide (entries_on (s:=s) (ms:=ms) (L:=out.map fun x => x.l.map El.p) (by rw [hen.out,hil,List.drop_length];rfl))
   have hmg:=entMergeO wr oA oc out (rd_own hown) (fun x hx => (hins.out x hx).1.rd) (fun x hx y hy => by have:=(hins.out x hx).2.nm y.p (List.mem_map.2 ⟨y,hy,rfl⟩);omega) (out.map fun x => x.l.map El.p) rfl (by
    have h1:=flatten_le (out.map fun x => x.l.map El.p) (fun l hl => by obtain ⟨x,hx,rfl⟩:=List.mem_map.1 hl;exact (hins.out x hx).2.len)
    rw [List.length_map] at h1
    omega)
   clear hen hown hins hil
   go_wp2_with fail
   refine hmg.mono ?_
   rintro e w3 ⟨hb3,A3,k3,ls,rfl,hls,hO3⟩
   clear hmg
   have hb4:=below_call hbr hbr.size hb3
   have HF:=hide (And.intro (hO3.base (B2:=w.heap.size) hbr.size) (And.intro hls hb4))
   clear hO3 hls hb4
   go_wp2_with fail
   go_ret2
   rw [HG.out]
   exact ⟨A3,k3,ls,rfl,HF.out.1,HF.out.2.1,HF.out.2.2⟩
end Go.Proofs.YtpfofefecamkfaaGreatDoor
