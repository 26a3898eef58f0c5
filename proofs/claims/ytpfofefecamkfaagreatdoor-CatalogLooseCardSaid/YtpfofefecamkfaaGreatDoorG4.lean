/- WHAT SERVES THE TABLES' STATEMENTS, part 4: D4. No statement of the seat is proved here. -/
import Derived.Test.YtpfofefecamkfaaGreatDoorG3
import Derived.Deep.CutRange
import Derived.Deep.RegionLaw
import Derived.Laws.IdiomRangeMap
namespace Go.Proofs.YtpfofefecamkfaaGreatDoor
open Go.RowKit
set_option maxRecDepth 100000

section

def n15 (p f:Sn):Bool:=decide (p.id.toNat < f.id.toNat) && (decide (f.id.toNat ≤ 1073741824) && (decide (f.par.toNat < f.id.toNat) && decide (f.seq.toNat ≤ 1073741824 ∧ f.off.toNat ≤ 1073741824 ∧ f.tim.toNat ≤ 1073741824)))
def n17 (p f:Sn):Bool:=decide (p.seq.toNat ≤ f.seq.toNat) && (decide (p.off.toNat ≤ f.off.toNat) && (decide (p.tim.toNat ≤ f.tim.toNat) && decide (p.sch.toNat ≤ f.sch.toNat)))
theorem nOk_split (p f:Sn) (ss:List Ps):(decide (p.id.toNat < f.id.toNat) && (decide (f.id.toNat ≤ 1073741824) && (decide (f.par.toNat < f.id.toNat) && (decide (f.seq.toNat ≤ 1073741824 ∧ f.off.toNat ≤ 1073741824 ∧ f.tim.toNat ≤ 1073741824) &&
 (decide (p.seq.toNat ≤ f.seq.toNat) && (decide (p.off.toNat ≤ f.off.toNat) && (decide (p.tim.toNat ≤ f.tim.toNat) && (decide (p.sch.toNat ≤ f.sch.toNat) && (namesOk f.ms && hasSch ss f.sch))))))))) = (n15 p f && (n17 p f && (namesOk f.ms && hasSch ss f.sch))):=by
 unfold n15 n17
 simp only [Bool.and_assoc]
set_option maxHeartbeats 8000000 in
theorem metaRight (w:World) (sA:Option Addr) (sc:Nat) (ss:List Sl) (nA:Option Addr) (nc:Nat) (ns:List Nl) (cur:Nat) (hT:TabR w w.heap.size sA sc ss nA nc ns) :
 Calls Tryz.prog 106 #[.agg #[.slice sA ss.length sc,.slice nA ns.length nc,.int .u64 (cur:Int)]] w fun e w' => e = .returned (.bool (rightP (ss.map plS) (ns.map plN) cur)) ∧ Below w.heap.size w w':=by
 obtain ⟨R,hR⟩:∃ R,R = rightP (ss.map plS) (ns.map plN) cur:=⟨_,rfl⟩
 rw [← hR]
 have HR:=hide hR
 clear hR
 have hcap1:ss.length ≤ 9223372036854775807:=by have h1:=hT.srow.le;have h2:=hT.srow.cap;unfold maxLen at h2;omega
 have hcap2:ns.length ≤ 9223372036854775807:=by have h1:=hT.nrow.le;have h2:=hT.nrow.cap;unfold maxLen at h2;omega
 by_cases g:ss.length < 1
 ·have HF:Hid (R = false):=hide (by rw [HR.out];exact right_len (by simp only [List.length_map];omega))
  have y1:decide ((ss.length:Int) < 1) = true:=decide_eq_true (by omega)
  clear g
  go_enter Tryz.func106,Tryz.ntmps106
  go_wp2_with fail
  go_ret
  exact ⟨by rw [HF.out];rfl,(Below.refl _ _).alloc (Nat.le_refl _) _⟩
 have y1:decide ((ss.length:Int) < 1) = false:=decide_eq_false (by omega)
 have H1:=hide g
 clear g
 by_cases g:16 < ss.length
 ·have HF:Hid (R = false):=hide (by rw [HR.out];exact right_len (by simp only [List.length_map];omega))
  have y2:decide ((16:Int) < (ss.length:Int)) = true:=decide_eq_true (by omega)
  clear g
  go_enter Tryz.func106,Tryz.ntmps106
  go_wp2_with fail
  go_ret
  exact ⟨by rw [HF.out];rfl,(Below.refl _ _).alloc (Nat.le_refl _) _⟩
 have y2:decide ((16:Int) < (ss.length:Int)) = false:=decide_eq_false (by omega)
 have H2:=hide g
 clear g
 by_cases g:32 < ns.length
 ·have HF:Hid (R = false):=hide (by rw [HR.out];exact right_len (by simp only [List.length_map];omega))
  have y3:decide ((32:Int) < (ns.length:Int)) = true:=decide_eq_true (by omega)
  clear g
  go_enter Tryz.func106,Tryz.ntmps106
  go_wp2_with fail
  go_ret
  exact ⟨by rw [HF.out];rfl,(Below.refl _ _).alloc (Nat.le_refl _) _⟩
 have y3:decide ((32:Int) < (ns.length:Int)) = false:=decide_eq_false (by omega)
 have H3:=hide g
 clear g
 have HL:Hid (1 ≤ ss.length ∧ ss.length ≤ 16 ∧ ns.length ≤ 32):=hide (by have:=H1.out;have:=H2.out;have:=H3.out;omega)
 clear H1 H2 H3
 go_enter Tryz.func106,Tryz.ntmps106
 go_wp2_with fail
 have x1:=boxN_new w #[.slice sA ss.length sc,.slice nA ns.length nc,.int .u64 (cur:Int)] 39
 have hb1:=(Below.refl w.heap.size w).alloc (Nat.le_refl _) (.cells #[.slice sA ss.length sc,.slice nA ns.length nc,.int .u64 (cur:Int)] 39)
 have hz1:(w.alloc (.cells #[.slice sA ss.length sc,.slice nA ns.length nc,.int .u64 (cur:Int)] 39)).heap.size = w.heap.size + 1:=by simp
 generalize w.alloc (.cells #[.slice sA ss.length sc,.slice nA ns.length nc,.int .u64 (cur:Int)] 39) = w1 at *
 have x2:=boxN_new w1 #[.int .u32 0,.slice none 0 0] 33
 have hb2:=(Below.refl w1.heap.size w1).alloc (Nat.le_refl _) (.cells #[.int .u32 0,.slice none 0 0] 33)
 have x1b:=x1.keep hb2 x1.z
 have hB2:=below_call hb1 hb1.size hb2
 generalize w1.alloc (.cells #[.int .u32 0,.slice none 0 0] 33) = w2 at *
 have hT2:=hT.below hB2
 rw [← hz1]
 have z12:w.heap.size < w1.heap.size:=by omega
 have z23:w1.heap.size < w2.heap.size:=x2.z
 generalize hb1e:w.heap.size = b1 at *
 generalize w1.heap.size = b3 at *
 have HB1:=hide hb1e
 clear hz1 hb1 hb2 x1 hT hb1e
 have c0:=x1b.cell 0 _ rfl
 have c1:=x1b.cell 1 _ rfl
 have c2:=x1b.cell 2 _ rfl
 clear y1 y2 y3
 go_loopw [30] (fun iv wr => ∃ (k:Nat) (wid:UInt32) (wA:Option Addr) (wc:Nat) (wfs:List Fd),iv = .int .i64 (k:Int) ∧ k ≤ ss.length ∧ BoxN wr b3 [.int .u32 (wid.toNat:Int),.slice wA wfs.length wc] ∧ Rd wr b1 4 wA wfs.length wc (fdsV wfs) ∧ Hid (wasP (ss.map plS) k = (wid,wfs)) ∧ Hid (∀ j,j < k → sOk (ss.map plS) j = true) ∧ Below b3 w2 wr) (fun iv _ => ss.length - (intOf iv).toNat)
 case atStart => exact ⟨0,0,none,0,[],rfl,Nat.zero_le _,x2,Rd.nil _ _ _,hide rfl,hide (fun j h => by omega),Below.refl _ _⟩
 case round =>
  obtain ⟨k,wid,wA,wc,wfs,rfl,hk,X,hwr,hwas,hall,hbr⟩:=hrel
  by_cases hlt:k < ss.length
  ·have hTr:=hT2.below (hbr.mono (Nat.le_of_lt z12))
   obtain ⟨b,off,rfl,hb,f0,f1⟩:=hTr.srow.sl hlt
   have hrd:=hTr.s_at hlt
   have hge:=plS_get ss k
   generalize hf:ss.getD k default = f at *
   have hso:=sOk_eq hge hwas.out
   have HSO:=hide hso
   have HGE:=hide hge
   have hlm:k < (ss.map plS).length:=by rw [List.length_map];exact hlt
   have HLM:=hide hlm
   clear hf hTr hge hso hlm
   have hbrz:=hbr.size
   -- the box of the round
   have y:=boxN_new wr #[.int .u32 (f.id.toNat:Int),.slice f.A f.fs.length f.c] 33
   have hbA:=(Below.refl wr.heap.size wr).alloc (Nat.le_refl _) (.cells #[.int .u32 (f.id.toNat:Int),.slice f.A f.fs.length f.c] 33)
   have X5:=X.keep hbA X.z
   have hz5:b3 < wr.heap.size:=X.z
   have hrd5:=hrd.below' hbA (show b1 ≤ wr.heap.size by omega)
   have hwr5:=hwr.below' hbA (show b1 ≤ wr.heap.size by omega)
   have hB5:Below b3 w2 _:=below_call hbr (Nat.le_of_lt hz5) hbA
   go_wp2_with fail
   generalize wr.alloc (.cells #[.int .u32 (f.id.toNat:Int),.slice f.A f.fs.length f.c] 33) = w5 at *
   generalize wr.heap.size = b5 at *
   have u0:=y.cell 0 _ rfl
   have u1:=y.cell 1 _ rfl
   have v0:=X5.cell 0 _ rfl
   have v1:=X5.cell 1 _ rfl
   have hz15:b1 ≤ w5.heap.size:=by have:=y.z;omega
   have hrdc:=hrd5.more hz15
   have zy:b5 < w5.heap.size:=y.z
   have zx:b3 < w5.heap.size:=X5.z
   have HXY:=hide (And.intro X5 y)
   have HB5:=hide hB5
   clear f0 f1 hrd hwr X hbA hbr y X5 hB5
   by_cases g:check f.id f.fs ≠ 0
   ·have HF:Hid (R = false):=hide (by rw [HR.out];exact right_s HLM.out (by rw [HSO.out];show (decide (check f.id f.fs = 0) && _) = false;rw [decide_eq_false g];rfl))
    obtain ⟨ck,hck⟩:∃ ck,check f.id f.fs = ck:=⟨_,rfl⟩
    have HCKI:Hid ((check f.id f.fs:Int) = (ck:Int)):=hide (by rw [hck])
    rw [hck] at g
    have t1:((ck:Int) != 0) = true:=by rw [bne_iff_ne];omega
    clear hck
    clear g
    refine wp_region_abs ext_grow (by kernel_rfl) (by kernel_rfl) ?_
    simp only [List.map_cons,List.map_nil]
    refine wpA_value ext_grow ?_ (fun _ _ h => by cases h) rfl rfl ?_ ?_
    rotate_left 1
    ·intro w' hw' C hC
     have q0:=(hw'.cell (p:=⟨b5,0,none⟩) zy).trans u0
     have q1:=(hw'.cell (p:=⟨b5,1,none⟩) zy).trans u1
     go_simp
     try go_bits
     exact hC
    simp only [putS,zC0,zB0]
    refine wpA_known (.is (.int .i64 (ck:Int))) (fun _ _ h => by cases h) rfl rfl (mono_is _) (fun w' hw' => ?_) ?_
    ·go_simp
     exact ⟨Below.refl _ _,(schCheck w' f.id _ f.c f.A f.fs ((hrdc.keep fun p hp => hw'.cell hp).more hw'.size)).mono fun e w'' h => is_ret (by rw [h.1,HCKI.out]) h.2⟩
    simp only [putS,zC0,zB0]
    refine wpA_value ext_grow ?_ (fun _ _ h => by cases h) rfl rfl ?_ ?_
    rotate_left 1
    ·intro w' hw' C hC
     go_simp
     try go_bits
     exact hC
    simp only [putS,zC0,zB0]
    refine wpA_value ext_grow ?_ (fun _ _ h => by cases h) rfl rfl ?_ ?_
    rotate_left 1
    ·intro w' hw' C hC
     go_simp
     try go_bits
     exact hC
    simp only [putS,zC0,zB0]
    refine wpA_skip rfl rfl ?_
    simp only [putS,zC0,zB0]
    refine wpA_skip rfl rfl ?_
    simp only [putS,zC0,zB0]
    refine wpA_skip rfl rfl ?_
    simp only [putS,zC0,zB0]
    refine wpA_skip rfl rfl ?_
    simp only [putS,zC0,zB0]
    refine wpA_skip rfl rfl ?_
    simp only [putS,zC0,zB0]
    refine wpA_value ext_grow ?_ (fun _ _ h => by cases h) rfl rfl ?_ ?_
    rotate_left 1
    ·intro w' hw' C hC
     go_simp
     try go_bits
     exact hC
    simp only [putS,zC0,zB0]
    refine wpA_value ext_grow ?_ (fun _ _ h => by cases h) rfl rfl ?_ ?_
    rotate_left 1
    ·intro w' hw' C hC
     go_simp
     try go_bits
     exact hC
    simp only [putS,zC0,zB0]
    refine wpA_skip rfl rfl ?_
    simp only [putS,zC0,zB0]
    refine wpA_skip rfl rfl ?_
    simp only [putS,zC0,zB0]
    refine wpA_skip rfl rfl ?_
    simp only [putS,zC0,zB0]
    refine wpA_skip rfl rfl ?_
    simp only [putS,zC0,zB0]
    refine wpA_skip rfl rfl ?_
    simp only [putS,zC0,zB0]
    refine wpA_skip rfl rfl ?_
    simp only [putS,zC0,zB0]
    refine wpA_skip rfl rfl ?_
    simp only [putS,zC0,zB0]
    refine wpA_value ext_grow ?_ (fun _ _ h => by cases h) rfl rfl ?_ ?_
    rotate_left 1
    ·intro w' hw' C hC
     go_simp
     try go_bits
     exact hC
    simp only [putS,zC0,zB0]
    refine wpA_value ext_grow ?_ (fun _ _ h => by cases h) rfl rfl ?_ ?_
    rotate_left 1
    ·intro w' hw' C hC
     go_simp
     try go_bits
     exact hC
    simp only [putS,zC0,zB0]
    refine wpA_skip rfl rfl ?_
    simp only [putS,zC0,zB0]
    refine wpA_skip rfl rfl ?_
    simp only [putS,zC0,zB0]
    refine wpA_skip rfl rfl ?_
    simp only [putS,zC0,zB0]
    refine wpA_skip rfl rfl ?_
    simp only [putS,zC0,zB0]
    refine wpA_skip rfl rfl ?_
    simp only [putS,zC0,zB0]
    refine wpA_skip rfl rfl ?_
    simp only [putS,zC0,zB0]
    refine wpA_skip rfl rfl ?_
    simp only [putS,zC0,zB0]
    refine wpA_skip rfl rfl ?_
    simp only [putS,zC0,zB0]
    refine wpA_skip rfl rfl ?_
    simp only [putS,zC0,zB0]
    refine wpA_skip rfl rfl ?_
    simp only [putS,zC0,zB0]
    refine wpA_value ext_grow ?_ (fun _ _ h => by cases h) rfl rfl ?_ ?_
    rotate_left 1
    ·intro w' hw' C hC
     go_simp
     try go_bits
     exact hC
    simp only [putS,zC0,zB0]
    intro w6 hw6
    simp only [openS]
    have hb6:=below_of_drew hw6
    go_wp2_with fail
    go_ret
    exact ⟨by rw [HF.out];rfl,by rw [HB1.out];exact (hB2.trans (HB5.out.mono (Nat.le_of_lt z12))).trans (hb6.mono hz15)⟩
   have HCK:Hid (check f.id f.fs = 0):=hide (by omega)
   have HCKI:Hid ((check f.id f.fs:Int) = 0):=hide (by rw [HCK.out];rfl)
   have hf8:f.fs.length ≤ 8:=(check_len HCK.out).2.2
   have hf1:1 ≤ f.id.toNat:=(check_len HCK.out).1
   clear g
   by_cases g:f.id.toNat ≤ wid.toNat
   ·have HF:Hid (R = false):=hide (by rw [HR.out];exact right_s HLM.out (by rw [HSO.out];show (_ && (decide (wid.toNat < f.id.toNat) && _)) = false;rw [decide_eq_false (show ¬ wid.toNat < f.id.toNat by omega)];simp))
    have t2:f.id.toNat ≤ wid.toNat:=g
    clear g
    refine wp_region_abs ext_grow (by kernel_rfl) (by kernel_rfl) ?_
    simp only [List.map_cons,List.map_nil]
    refine wpA_value ext_grow ?_ (fun _ _ h => by cases h) rfl rfl ?_ ?_
    rotate_left 1
    ·intro w' hw' C hC
     have q0:=(hw'.cell (p:=⟨b5,0,none⟩) zy).trans u0
     have q1:=(hw'.cell (p:=⟨b5,1,none⟩) zy).trans u1
     go_simp
     try go_bits
     exact hC
    simp only [putS,zC0,zB0]
    refine wpA_known (.is (.int .i64 0)) (fun _ _ h => by cases h) rfl rfl (mono_is _) (fun w' hw' => ?_) ?_
    ·go_simp
     exact ⟨Below.refl _ _,(schCheck w' f.id _ f.c f.A f.fs ((hrdc.keep fun p hp => hw'.cell hp).more hw'.size)).mono fun e w'' h => is_ret (by rw [h.1,HCKI.out]) h.2⟩
    simp only [putS,zC0,zB0]
    refine wpA_value ext_grow ?_ (fun _ _ h => by cases h) rfl rfl ?_ ?_
    rotate_left 1
    ·intro w' hw' C hC
     go_simp
     try go_bits
     exact hC
    simp only [putS,zC0,zB0]
    refine wpA_value ext_grow ?_ (fun _ _ h => by cases h) rfl rfl ?_ ?_
    rotate_left 1
    ·intro w' hw' C hC
     go_simp
     try go_bits
     exact hC
    simp only [putS,zC0,zB0]
    refine wpA_value ext_grow ?_ (fun _ _ h => by cases h) rfl rfl ?_ ?_
    rotate_left 1
    ·intro w' hw' C hC
     go_simp
     try go_bits
     exact hC
    simp only [putS,zC0,zB0]
    refine wpA_value ext_grow ?_ (fun _ _ h => by cases h) rfl rfl ?_ ?_
    rotate_left 1
    ·intro w' hw' C hC
     have q0:=(hw'.cell (p:=⟨b5,0,none⟩) zy).trans u0
     go_simp
     try go_bits
     exact hC
    simp only [putS,zC0,zB0]
    refine wpA_value ext_grow ?_ (fun _ _ h => by cases h) rfl rfl ?_ ?_
    rotate_left 1
    ·intro w' hw' C hC
     go_simp
     try go_bits
     exact hC
    simp only [putS,zC0,zB0]
    refine wpA_value ext_grow ?_ (fun _ _ h => by cases h) rfl rfl ?_ ?_
    rotate_left 1
    ·intro w' hw' C hC
     have q0:=(hw'.cell (p:=⟨b3,0,none⟩) zx).trans v0
     go_simp
     try go_bits
     exact hC
    simp only [putS,zC0,zB0]
    refine wpA_value ext_grow ?_ (fun _ _ h => by cases h) rfl rfl ?_ ?_
    rotate_left 1
    ·intro w' hw' C hC
     go_simp
     try go_bits
     exact hC
    simp only [putS,zC0,zB0]
    refine wpA_value ext_grow ?_ (fun _ _ h => by cases h) rfl rfl ?_ ?_
    rotate_left 1
    ·intro w' hw' C hC
     go_simp
     try go_bits
     exact hC
    simp only [putS,zC0,zB0]
    refine wpA_value ext_grow ?_ (fun _ _ h => by cases h) rfl rfl ?_ ?_
    rotate_left 1
    ·intro w' hw' C hC
     go_simp
     try go_bits
     exact hC
    simp only [putS,zC0,zB0]
    refine wpA_skip rfl rfl ?_
    simp only [putS,zC0,zB0]
    refine wpA_skip rfl rfl ?_
    simp only [putS,zC0,zB0]
    refine wpA_skip rfl rfl ?_
    simp only [putS,zC0,zB0]
    refine wpA_skip rfl rfl ?_
    simp only [putS,zC0,zB0]
    refine wpA_skip rfl rfl ?_
    simp only [putS,zC0,zB0]
    refine wpA_skip rfl rfl ?_
    simp only [putS,zC0,zB0]
    refine wpA_skip rfl rfl ?_
    simp only [putS,zC0,zB0]
    refine wpA_value ext_grow ?_ (fun _ _ h => by cases h) rfl rfl ?_ ?_
    rotate_left 1
    ·intro w' hw' C hC
     go_simp
     try go_bits
     exact hC
    simp only [putS,zC0,zB0]
    refine wpA_value ext_grow ?_ (fun _ _ h => by cases h) rfl rfl ?_ ?_
    rotate_left 1
    ·intro w' hw' C hC
     go_simp
     try go_bits
     exact hC
    simp only [putS,zC0,zB0]
    refine wpA_skip rfl rfl ?_
    simp only [putS,zC0,zB0]
    refine wpA_skip rfl rfl ?_
    simp only [putS,zC0,zB0]
    refine wpA_skip rfl rfl ?_
    simp only [putS,zC0,zB0]
    refine wpA_skip rfl rfl ?_
    simp only [putS,zC0,zB0]
    refine wpA_skip rfl rfl ?_
    simp only [putS,zC0,zB0]
    refine wpA_skip rfl rfl ?_
    simp only [putS,zC0,zB0]
    refine wpA_skip rfl rfl ?_
    simp only [putS,zC0,zB0]
    refine wpA_skip rfl rfl ?_
    simp only [putS,zC0,zB0]
    refine wpA_skip rfl rfl ?_
    simp only [putS,zC0,zB0]
    refine wpA_skip rfl rfl ?_
    simp only [putS,zC0,zB0]
    refine wpA_value ext_grow ?_ (fun _ _ h => by cases h) rfl rfl ?_ ?_
    rotate_left 1
    ·intro w' hw' C hC
     go_simp
     try go_bits
     exact hC
    simp only [putS,zC0,zB0]
    intro w6 hw6
    simp only [openS]
    have hb6:=below_of_drew hw6
    go_wp2_with fail
    go_ret
    exact ⟨by rw [HF.out];rfl,by rw [HB1.out];exact (hB2.trans (HB5.out.mono (Nat.le_of_lt z12))).trans (hb6.mono hz15)⟩
   have t2:¬ f.id.toNat ≤ wid.toNat:=g
   clear g
   by_cases g:f.fs.length < wfs.length
   ·have HF:Hid (R = false):=hide (by rw [HR.out];exact right_s HLM.out (by rw [HSO.out];show (_ && (_ && (decide (wfs.length ≤ f.fs.length) && _))) = false;rw [decide_eq_false (show ¬ wfs.length ≤ f.fs.length by omega)];simp))
    have t3:f.fs.length < wfs.length:=g
    clear g
    refine wp_region_abs ext_grow (by kernel_rfl) (by kernel_rfl) ?_
    simp only [List.map_cons,List.map_nil]
    refine wpA_value ext_grow ?_ (fun _ _ h => by cases h) rfl rfl ?_ ?_
    rotate_left 1
    ·intro w' hw' C hC
     have q0:=(hw'.cell (p:=⟨b5,0,none⟩) zy).trans u0
     have q1:=(hw'.cell (p:=⟨b5,1,none⟩) zy).trans u1
     go_simp
     try go_bits
     exact hC
    simp only [putS,zC0,zB0]
    refine wpA_known (.is (.int .i64 0)) (fun _ _ h => by cases h) rfl rfl (mono_is _) (fun w' hw' => ?_) ?_
    ·go_simp
     exact ⟨Below.refl _ _,(schCheck w' f.id _ f.c f.A f.fs ((hrdc.keep fun p hp => hw'.cell hp).more hw'.size)).mono fun e w'' h => is_ret (by rw [h.1,HCKI.out]) h.2⟩
    simp only [putS,zC0,zB0]
    refine wpA_value ext_grow ?_ (fun _ _ h => by cases h) rfl rfl ?_ ?_
    rotate_left 1
    ·intro w' hw' C hC
     go_simp
     try go_bits
     exact hC
    simp only [putS,zC0,zB0]
    refine wpA_value ext_grow ?_ (fun _ _ h => by cases h) rfl rfl ?_ ?_
    rotate_left 1
    ·intro w' hw' C hC
     go_simp
     try go_bits
     exact hC
    simp only [putS,zC0,zB0]
    refine wpA_value ext_grow ?_ (fun _ _ h => by cases h) rfl rfl ?_ ?_
    rotate_left 1
    ·intro w' hw' C hC
     go_simp
     try go_bits
     exact hC
    simp only [putS,zC0,zB0]
    refine wpA_value ext_grow ?_ (fun _ _ h => by cases h) rfl rfl ?_ ?_
    rotate_left 1
    ·intro w' hw' C hC
     have q0:=(hw'.cell (p:=⟨b5,0,none⟩) zy).trans u0
     go_simp
     try go_bits
     exact hC
    simp only [putS,zC0,zB0]
    refine wpA_value ext_grow ?_ (fun _ _ h => by cases h) rfl rfl ?_ ?_
    rotate_left 1
    ·intro w' hw' C hC
     go_simp
     try go_bits
     exact hC
    simp only [putS,zC0,zB0]
    refine wpA_value ext_grow ?_ (fun _ _ h => by cases h) rfl rfl ?_ ?_
    rotate_left 1
    ·intro w' hw' C hC
     have q0:=(hw'.cell (p:=⟨b3,0,none⟩) zx).trans v0
     go_simp
     try go_bits
     exact hC
    simp only [putS,zC0,zB0]
    refine wpA_value ext_grow ?_ (fun _ _ h => by cases h) rfl rfl ?_ ?_
    rotate_left 1
    ·intro w' hw' C hC
     go_simp
     try go_bits
     exact hC
    simp only [putS,zC0,zB0]
    refine wpA_value ext_grow ?_ (fun _ _ h => by cases h) rfl rfl ?_ ?_
    rotate_left 1
    ·intro w' hw' C hC
     go_simp
     try go_bits
     exact hC
    simp only [putS,zC0,zB0]
    refine wpA_value ext_grow ?_ (fun _ _ h => by cases h) rfl rfl ?_ ?_
    rotate_left 1
    ·intro w' hw' C hC
     go_simp
     try go_bits
     exact hC
    simp only [putS,zC0,zB0]
    refine wpA_value ext_grow ?_ (fun _ _ h => by cases h) rfl rfl ?_ ?_
    rotate_left 1
    ·intro w' hw' C hC
     go_simp
     try go_bits
     exact hC
    simp only [putS,zC0,zB0]
    refine wpA_value ext_grow ?_ (fun _ _ h => by cases h) rfl rfl ?_ ?_
    rotate_left 1
    ·intro w' hw' C hC
     have q1:=(hw'.cell (p:=⟨b5,1,none⟩) zy).trans u1
     go_simp
     try go_bits
     exact hC
    simp only [putS,zC0,zB0]
    refine wpA_value ext_grow ?_ (fun _ _ h => by cases h) rfl rfl ?_ ?_
    rotate_left 1
    ·intro w' hw' C hC
     go_simp
     try go_bits
     exact hC
    simp only [putS,zC0,zB0]
    refine wpA_value ext_grow ?_ (fun _ _ h => by cases h) rfl rfl ?_ ?_
    rotate_left 1
    ·intro w' hw' C hC
     go_simp
     try go_bits
     exact hC
    simp only [putS,zC0,zB0]
    refine wpA_value ext_grow ?_ (fun _ _ h => by cases h) rfl rfl ?_ ?_
    rotate_left 1
    ·intro w' hw' C hC
     have q1:=(hw'.cell (p:=⟨b3,1,none⟩) zx).trans v1
     go_simp
     try go_bits
     exact hC
    simp only [putS,zC0,zB0]
    refine wpA_value ext_grow ?_ (fun _ _ h => by cases h) rfl rfl ?_ ?_
    rotate_left 1
    ·intro w' hw' C hC
     go_simp
     try go_bits
     exact hC
    simp only [putS,zC0,zB0]
    refine wpA_value ext_grow ?_ (fun _ _ h => by cases h) rfl rfl ?_ ?_
    rotate_left 1
    ·intro w' hw' C hC
     go_simp
     try go_bits
     exact hC
    simp only [putS,zC0,zB0]
    refine wpA_value ext_grow ?_ (fun _ _ h => by cases h) rfl rfl ?_ ?_
    rotate_left 1
    ·intro w' hw' C hC
     go_simp
     try go_bits
     exact hC
    simp only [putS,zC0,zB0]
    refine wpA_value ext_grow ?_ (fun _ _ h => by cases h) rfl rfl ?_ ?_
    rotate_left 1
    ·intro w' hw' C hC
     go_simp
     try go_bits
     exact hC
    simp only [putS,zC0,zB0]
    refine wpA_skip rfl rfl ?_
    simp only [putS,zC0,zB0]
    refine wpA_skip rfl rfl ?_
    simp only [putS,zC0,zB0]
    refine wpA_skip rfl rfl ?_
    simp only [putS,zC0,zB0]
    refine wpA_skip rfl rfl ?_
    simp only [putS,zC0,zB0]
    refine wpA_skip rfl rfl ?_
    simp only [putS,zC0,zB0]
    refine wpA_skip rfl rfl ?_
    simp only [putS,zC0,zB0]
    refine wpA_skip rfl rfl ?_
    simp only [putS,zC0,zB0]
    refine wpA_skip rfl rfl ?_
    simp only [putS,zC0,zB0]
    refine wpA_skip rfl rfl ?_
    simp only [putS,zC0,zB0]
    refine wpA_skip rfl rfl ?_
    simp only [putS,zC0,zB0]
    refine wpA_value ext_grow ?_ (fun _ _ h => by cases h) rfl rfl ?_ ?_
    rotate_left 1
    ·intro w' hw' C hC
     go_simp
     try go_bits
     exact hC
    simp only [putS,zC0,zB0]
    intro w6 hw6
    simp only [openS]
    have hb6:=below_of_drew hw6
    go_wp2_with fail
    go_ret
    exact ⟨by rw [HF.out];rfl,by rw [HB1.out];exact (hB2.trans (HB5.out.mono (Nat.le_of_lt z12))).trans (hb6.mono hz15)⟩
   have t3:¬ f.fs.length < wfs.length:=g
   clear g
   have hcap:f.fs.length ≤ f.c:=hrd5.le
   have hcut:=fun W => run_cut_hi tyFields f.A f.fs.length f.c .i64 (wfs.length:Int) wfs.length rfl (by omega) W
   have hcut2:=fun W => cut_hi tyFields f.A f.fs.length f.c .i64 (wfs.length:Int) wfs.length rfl (by omega) W
   obtain ⟨eq,heq⟩:∃ eq,fdsEq (f.fs.take wfs.length) wfs = eq:=⟨_,rfl⟩
   have HEQ:=hide heq
   clear heq
   by_cases g:eq = false
   ·have HF:Hid (R = false):=hide (by rw [HR.out];exact right_s HLM.out (by rw [HSO.out];show (_ && (_ && (_ && fdsEq (f.fs.take wfs.length) wfs))) = false;rw [HEQ.out,g];simp))
    rw [g] at HEQ
    clear g
    refine wp_region_abs ext_grow (by kernel_rfl) (by kernel_rfl) ?_
    simp only [List.map_cons,List.map_nil]
    refine wpA_value ext_grow ?_ (fun _ _ h => by cases h) rfl rfl ?_ ?_
    rotate_left 1
    ·intro w' hw' C hC
     have q0:=(hw'.cell (p:=⟨b5,0,none⟩) zy).trans u0
     have q1:=(hw'.cell (p:=⟨b5,1,none⟩) zy).trans u1
     go_simp
     try go_bits
     exact hC
    simp only [putS,zC0,zB0]
    refine wpA_known (.is (.int .i64 0)) (fun _ _ h => by cases h) rfl rfl (mono_is _) (fun w' hw' => ?_) ?_
    ·go_simp
     exact ⟨Below.refl _ _,(schCheck w' f.id _ f.c f.A f.fs ((hrdc.keep fun p hp => hw'.cell hp).more hw'.size)).mono fun e w'' h => is_ret (by rw [h.1,HCKI.out]) h.2⟩
    simp only [putS,zC0,zB0]
    refine wpA_value ext_grow ?_ (fun _ _ h => by cases h) rfl rfl ?_ ?_
    rotate_left 1
    ·intro w' hw' C hC
     go_simp
     try go_bits
     exact hC
    simp only [putS,zC0,zB0]
    refine wpA_value ext_grow ?_ (fun _ _ h => by cases h) rfl rfl ?_ ?_
    rotate_left 1
    ·intro w' hw' C hC
     go_simp
     try go_bits
     exact hC
    simp only [putS,zC0,zB0]
    refine wpA_value ext_grow ?_ (fun _ _ h => by cases h) rfl rfl ?_ ?_
    rotate_left 1
    ·intro w' hw' C hC
     go_simp
     try go_bits
     exact hC
    simp only [putS,zC0,zB0]
    refine wpA_value ext_grow ?_ (fun _ _ h => by cases h) rfl rfl ?_ ?_
    rotate_left 1
    ·intro w' hw' C hC
     have q0:=(hw'.cell (p:=⟨b5,0,none⟩) zy).trans u0
     go_simp
     try go_bits
     exact hC
    simp only [putS,zC0,zB0]
    refine wpA_value ext_grow ?_ (fun _ _ h => by cases h) rfl rfl ?_ ?_
    rotate_left 1
    ·intro w' hw' C hC
     go_simp
     try go_bits
     exact hC
    simp only [putS,zC0,zB0]
    refine wpA_value ext_grow ?_ (fun _ _ h => by cases h) rfl rfl ?_ ?_
    rotate_left 1
    ·intro w' hw' C hC
     have q0:=(hw'.cell (p:=⟨b3,0,none⟩) zx).trans v0
     go_simp
     try go_bits
     exact hC
    simp only [putS,zC0,zB0]
    refine wpA_value ext_grow ?_ (fun _ _ h => by cases h) rfl rfl ?_ ?_
    rotate_left 1
    ·intro w' hw' C hC
     go_simp
     try go_bits
     exact hC
    simp only [putS,zC0,zB0]
    refine wpA_value ext_grow ?_ (fun _ _ h => by cases h) rfl rfl ?_ ?_
    rotate_left 1
    ·intro w' hw' C hC
     go_simp
     try go_bits
     exact hC
    simp only [putS,zC0,zB0]
    refine wpA_value ext_grow ?_ (fun _ _ h => by cases h) rfl rfl ?_ ?_
    rotate_left 1
    ·intro w' hw' C hC
     go_simp
     try go_bits
     exact hC
    simp only [putS,zC0,zB0]
    refine wpA_value ext_grow ?_ (fun _ _ h => by cases h) rfl rfl ?_ ?_
    rotate_left 1
    ·intro w' hw' C hC
     go_simp
     try go_bits
     exact hC
    simp only [putS,zC0,zB0]
    refine wpA_value ext_grow ?_ (fun _ _ h => by cases h) rfl rfl ?_ ?_
    rotate_left 1
    ·intro w' hw' C hC
     have q1:=(hw'.cell (p:=⟨b5,1,none⟩) zy).trans u1
     go_simp
     try go_bits
     exact hC
    simp only [putS,zC0,zB0]
    refine wpA_value ext_grow ?_ (fun _ _ h => by cases h) rfl rfl ?_ ?_
    rotate_left 1
    ·intro w' hw' C hC
     go_simp
     try go_bits
     exact hC
    simp only [putS,zC0,zB0]
    refine wpA_value ext_grow ?_ (fun _ _ h => by cases h) rfl rfl ?_ ?_
    rotate_left 1
    ·intro w' hw' C hC
     go_simp
     try go_bits
     exact hC
    simp only [putS,zC0,zB0]
    refine wpA_value ext_grow ?_ (fun _ _ h => by cases h) rfl rfl ?_ ?_
    rotate_left 1
    ·intro w' hw' C hC
     have q1:=(hw'.cell (p:=⟨b3,1,none⟩) zx).trans v1
     go_simp
     try go_bits
     exact hC
    simp only [putS,zC0,zB0]
    refine wpA_value ext_grow ?_ (fun _ _ h => by cases h) rfl rfl ?_ ?_
    rotate_left 1
    ·intro w' hw' C hC
     go_simp
     try go_bits
     exact hC
    simp only [putS,zC0,zB0]
    refine wpA_value ext_grow ?_ (fun _ _ h => by cases h) rfl rfl ?_ ?_
    rotate_left 1
    ·intro w' hw' C hC
     go_simp
     try go_bits
     exact hC
    simp only [putS,zC0,zB0]
    refine wpA_value ext_grow ?_ (fun _ _ h => by cases h) rfl rfl ?_ ?_
    rotate_left 1
    ·intro w' hw' C hC
     go_simp
     try go_bits
     exact hC
    simp only [putS,zC0,zB0]
    refine wpA_value ext_grow ?_ (fun _ _ h => by cases h) rfl rfl ?_ ?_
    rotate_left 1
    ·intro w' hw' C hC
     go_simp
     try go_bits
     exact hC
    simp only [putS,zC0,zB0]
    refine wpA_value ext_grow ?_ (fun _ _ h => by cases h) rfl rfl ?_ ?_
    rotate_left 1
    ·intro w' hw' C hC
     go_simp
     try go_bits
     exact hC
    simp only [putS,zC0,zB0]
    refine wpA_value ext_grow ?_ (fun _ _ h => by cases h) rfl rfl ?_ ?_
    rotate_left 1
    ·intro w' hw' C hC
     have q1:=(hw'.cell (p:=⟨b5,1,none⟩) zy).trans u1
     go_simp
     try go_bits
     exact hC
    simp only [putS,zC0,zB0]
    refine wpA_value ext_grow ?_ (fun _ _ h => by cases h) rfl rfl ?_ ?_
    rotate_left 1
    ·intro w' hw' C hC
     go_simp
     try go_bits
     exact hC
    simp only [putS,zC0,zB0]
    refine wpA_value ext_grow ?_ (fun _ _ h => by cases h) rfl rfl ?_ ?_
    rotate_left 1
    ·intro w' hw' C hC
     have q1:=(hw'.cell (p:=⟨b3,1,none⟩) zx).trans v1
     go_simp
     try go_bits
     exact hC
    simp only [putS,zC0,zB0]
    refine wpA_value ext_grow ?_ (fun _ _ h => by cases h) rfl rfl ?_ ?_
    rotate_left 1
    ·intro w' hw' C hC
     go_simp
     try go_bits
     exact hC
    simp only [putS,zC0,zB0]
    refine wpA_value ext_grow ?_ (fun _ _ h => by cases h) rfl rfl ?_ ?_
    rotate_left 1
    ·intro w' hw' C hC
     go_simp
     try go_bits
     exact hC
    simp only [putS,zC0,zB0]
    refine wpA_value ext_grow ?_ (fun _ _ h => by cases h) rfl rfl ?_ ?_
    rotate_left 1
    ·intro w' hw' C hC
     go_simp
     try go_bits
     exact hC
    simp only [putS,zC0,zB0]
    refine wpA_value ext_grow ?_ (fun _ _ h => by cases h) rfl rfl ?_ ?_
    rotate_left 1
    ·intro w' hw' C hC
     have q1:=(hw'.cell (p:=⟨b3,1,none⟩) zx).trans v1
     go_simp
     try go_bits
     exact hC
    simp only [putS,zC0,zB0]
    refine wpA_known (.is (.bool false)) (fun _ _ h => by cases h) rfl rfl (mono_is _) (fun w' hw' => ?_) ?_
    ·go_simp
     exact ⟨Below.refl _ _,(equalF w' w'.heap.size wfs.length f.c _ wc f.A wA (f.fs.take wfs.length) wfs (by have:=(hrdc.keep fun p hp => hw'.cell hp).pre (hi:=wfs.length) (by omega);exact (by simpa [fdsV_take] using this.more hw'.size)) (((hwr5.more hz15).keep fun p hp => hw'.cell hp).more hw'.size) (Nat.le_refl _) (by simp;omega)).mono fun e w'' h => is_ret (by rw [h.1,HEQ.out]) h.2⟩
    simp only [putS,zC0,zB0]
    refine wpA_value ext_grow ?_ (fun _ _ h => by cases h) rfl rfl ?_ ?_
    rotate_left 1
    ·intro w' hw' C hC
     go_simp
     try go_bits
     exact hC
    simp only [putS,zC0,zB0]
    refine wpA_value ext_grow ?_ (fun _ _ h => by cases h) rfl rfl ?_ ?_
    rotate_left 1
    ·intro w' hw' C hC
     go_simp
     try go_bits
     exact hC
    simp only [putS,zC0,zB0]
    intro w6 hw6
    simp only [openS]
    have hb6:=below_of_drew hw6
    go_wp2_with fail
    go_ret
    exact ⟨by rw [HF.out];rfl,by rw [HB1.out];exact (hB2.trans (HB5.out.mono (Nat.le_of_lt z12))).trans (hb6.mono hz15)⟩
   obtain rfl:eq = true:=by cases eq with | true => rfl | false => exact absurd rfl g
   have HOK:Hid (sOk (ss.map plS) k = true):=hide (by
    rw [HSO.out]
    show (decide (check f.id f.fs = 0) && (decide (wid.toNat < f.id.toNat) && (decide (wfs.length ≤ f.fs.length) && fdsEq (f.fs.take wfs.length) wfs))) = true
    rw [decide_eq_true HCK.out,decide_eq_true (show wid.toNat < f.id.toNat by omega),decide_eq_true (show wfs.length ≤ f.fs.length by omega),HEQ.out]
    rfl)
   clear g
   refine wp_region_abs ext_grow (by kernel_rfl) (by kernel_rfl) ?_
   simp only [List.map_cons,List.map_nil]
   refine wpA_value ext_grow ?_ (fun _ _ h => by cases h) rfl rfl ?_ ?_
   rotate_left 1
   ·intro w' hw' C hC
    have q0:=(hw'.cell (p:=⟨b5,0,none⟩) zy).trans u0
    have q1:=(hw'.cell (p:=⟨b5,1,none⟩) zy).trans u1
    go_simp
    try go_bits
    exact hC
   simp only [putS,zC0,zB0]
   refine wpA_known (.is (.int .i64 0)) (fun _ _ h => by cases h) rfl rfl (mono_is _) (fun w' hw' => ?_) ?_
   ·go_simp
    exact ⟨Below.refl _ _,(schCheck w' f.id _ f.c f.A f.fs ((hrdc.keep fun p hp => hw'.cell hp).more hw'.size)).mono fun e w'' h => is_ret (by rw [h.1,HCKI.out]) h.2⟩
   simp only [putS,zC0,zB0]
   refine wpA_value ext_grow ?_ (fun _ _ h => by cases h) rfl rfl ?_ ?_
   rotate_left 1
   ·intro w' hw' C hC
    go_simp
    try go_bits
    exact hC
   simp only [putS,zC0,zB0]
   refine wpA_value ext_grow ?_ (fun _ _ h => by cases h) rfl rfl ?_ ?_
   rotate_left 1
   ·intro w' hw' C hC
    go_simp
    try go_bits
    exact hC
   simp only [putS,zC0,zB0]
   refine wpA_value ext_grow ?_ (fun _ _ h => by cases h) rfl rfl ?_ ?_
   rotate_left 1
   ·intro w' hw' C hC
    go_simp
    try go_bits
    exact hC
   simp only [putS,zC0,zB0]
   refine wpA_value ext_grow ?_ (fun _ _ h => by cases h) rfl rfl ?_ ?_
   rotate_left 1
   ·intro w' hw' C hC
    have q0:=(hw'.cell (p:=⟨b5,0,none⟩) zy).trans u0
    go_simp
    try go_bits
    exact hC
   simp only [putS,zC0,zB0]
   refine wpA_value ext_grow ?_ (fun _ _ h => by cases h) rfl rfl ?_ ?_
   rotate_left 1
   ·intro w' hw' C hC
    go_simp
    try go_bits
    exact hC
   simp only [putS,zC0,zB0]
   refine wpA_value ext_grow ?_ (fun _ _ h => by cases h) rfl rfl ?_ ?_
   rotate_left 1
   ·intro w' hw' C hC
    have q0:=(hw'.cell (p:=⟨b3,0,none⟩) zx).trans v0
    go_simp
    try go_bits
    exact hC
   simp only [putS,zC0,zB0]
   refine wpA_value ext_grow ?_ (fun _ _ h => by cases h) rfl rfl ?_ ?_
   rotate_left 1
   ·intro w' hw' C hC
    go_simp
    try go_bits
    exact hC
   simp only [putS,zC0,zB0]
   refine wpA_value ext_grow ?_ (fun _ _ h => by cases h) rfl rfl ?_ ?_
   rotate_left 1
   ·intro w' hw' C hC
    go_simp
    try go_bits
    exact hC
   simp only [putS,zC0,zB0]
   refine wpA_value ext_grow ?_ (fun _ _ h => by cases h) rfl rfl ?_ ?_
   rotate_left 1
   ·intro w' hw' C hC
    go_simp
    try go_bits
    exact hC
   simp only [putS,zC0,zB0]
   refine wpA_value ext_grow ?_ (fun _ _ h => by cases h) rfl rfl ?_ ?_
   rotate_left 1
   ·intro w' hw' C hC
    go_simp
    try go_bits
    exact hC
   simp only [putS,zC0,zB0]
   refine wpA_value ext_grow ?_ (fun _ _ h => by cases h) rfl rfl ?_ ?_
   rotate_left 1
   ·intro w' hw' C hC
    have q1:=(hw'.cell (p:=⟨b5,1,none⟩) zy).trans u1
    go_simp
    try go_bits
    exact hC
   simp only [putS,zC0,zB0]
   refine wpA_value ext_grow ?_ (fun _ _ h => by cases h) rfl rfl ?_ ?_
   rotate_left 1
   ·intro w' hw' C hC
    go_simp
    try go_bits
    exact hC
   simp only [putS,zC0,zB0]
   refine wpA_value ext_grow ?_ (fun _ _ h => by cases h) rfl rfl ?_ ?_
   rotate_left 1
   ·intro w' hw' C hC
    go_simp
    try go_bits
    exact hC
   simp only [putS,zC0,zB0]
   refine wpA_value ext_grow ?_ (fun _ _ h => by cases h) rfl rfl ?_ ?_
   rotate_left 1
   ·intro w' hw' C hC
    have q1:=(hw'.cell (p:=⟨b3,1,none⟩) zx).trans v1
    go_simp
    try go_bits
    exact hC
   simp only [putS,zC0,zB0]
   refine wpA_value ext_grow ?_ (fun _ _ h => by cases h) rfl rfl ?_ ?_
   rotate_left 1
   ·intro w' hw' C hC
    go_simp
    try go_bits
    exact hC
   simp only [putS,zC0,zB0]
   refine wpA_value ext_grow ?_ (fun _ _ h => by cases h) rfl rfl ?_ ?_
   rotate_left 1
   ·intro w' hw' C hC
    go_simp
    try go_bits
    exact hC
   simp only [putS,zC0,zB0]
   refine wpA_value ext_grow ?_ (fun _ _ h => by cases h) rfl rfl ?_ ?_
   rotate_left 1
   ·intro w' hw' C hC
    go_simp
    try go_bits
    exact hC
   simp only [putS,zC0,zB0]
   refine wpA_value ext_grow ?_ (fun _ _ h => by cases h) rfl rfl ?_ ?_
   rotate_left 1
   ·intro w' hw' C hC
    go_simp
    try go_bits
    exact hC
   simp only [putS,zC0,zB0]
   refine wpA_value ext_grow ?_ (fun _ _ h => by cases h) rfl rfl ?_ ?_
   rotate_left 1
   ·intro w' hw' C hC
    go_simp
    try go_bits
    exact hC
   simp only [putS,zC0,zB0]
   refine wpA_value ext_grow ?_ (fun _ _ h => by cases h) rfl rfl ?_ ?_
   rotate_left 1
   ·intro w' hw' C hC
    have q1:=(hw'.cell (p:=⟨b5,1,none⟩) zy).trans u1
    go_simp
    try go_bits
    exact hC
   simp only [putS,zC0,zB0]
   refine wpA_value ext_grow ?_ (fun _ _ h => by cases h) rfl rfl ?_ ?_
   rotate_left 1
   ·intro w' hw' C hC
    go_simp
    try go_bits
    exact hC
   simp only [putS,zC0,zB0]
   refine wpA_value ext_grow ?_ (fun _ _ h => by cases h) rfl rfl ?_ ?_
   rotate_left 1
   ·intro w' hw' C hC
    have q1:=(hw'.cell (p:=⟨b3,1,none⟩) zx).trans v1
    go_simp
    try go_bits
    exact hC
   simp only [putS,zC0,zB0]
   refine wpA_value ext_grow ?_ (fun _ _ h => by cases h) rfl rfl ?_ ?_
   rotate_left 1
   ·intro w' hw' C hC
    go_simp
    try go_bits
    exact hC
   simp only [putS,zC0,zB0]
   refine wpA_value ext_grow ?_ (fun _ _ h => by cases h) rfl rfl ?_ ?_
   rotate_left 1
   ·intro w' hw' C hC
    go_simp
    try go_bits
    exact hC
   simp only [putS,zC0,zB0]
   refine wpA_value ext_grow ?_ (fun _ _ h => by cases h) rfl rfl ?_ ?_
   rotate_left 1
   ·intro w' hw' C hC
    go_simp
    try go_bits
    exact hC
   simp only [putS,zC0,zB0]
   refine wpA_value ext_grow ?_ (fun _ _ h => by cases h) rfl rfl ?_ ?_
   rotate_left 1
   ·intro w' hw' C hC
    have q1:=(hw'.cell (p:=⟨b3,1,none⟩) zx).trans v1
    go_simp
    try go_bits
    exact hC
   simp only [putS,zC0,zB0]
   refine wpA_known (.is (.bool true)) (fun _ _ h => by cases h) rfl rfl (mono_is _) (fun w' hw' => ?_) ?_
   ·go_simp
    exact ⟨Below.refl _ _,(equalF w' w'.heap.size wfs.length f.c _ wc f.A wA (f.fs.take wfs.length) wfs (by have:=(hrdc.keep fun p hp => hw'.cell hp).pre (hi:=wfs.length) (by omega);exact (by simpa [fdsV_take] using this.more hw'.size)) (((hwr5.more hz15).keep fun p hp => hw'.cell hp).more hw'.size) (Nat.le_refl _) (by simp;omega)).mono fun e w'' h => is_ret (by rw [h.1,HEQ.out]) h.2⟩
   simp only [putS,zC0,zB0]
   refine wpA_value ext_grow ?_ (fun _ _ h => by cases h) rfl rfl ?_ ?_
   rotate_left 1
   ·intro w' hw' C hC
    go_simp
    try go_bits
    exact hC
   simp only [putS,zC0,zB0]
   refine wpA_value ext_grow ?_ (fun _ _ h => by cases h) rfl rfl ?_ ?_
   rotate_left 1
   ·intro w' hw' C hC
    go_simp
    try go_bits
    exact hC
   simp only [putS,zC0,zB0]
   intro w6 hw6
   simp only [openS]
   have hb6:=below_of_drew hw6
   have X6:=HXY.out.1.keep hb6 HXY.out.1.z
   have Y6:=HXY.out.2.keep hb6 HXY.out.2.z
   have d0:=Y6.cell 0 _ rfl
   have d1:=Y6.cell 1 _ rfl
   have e0:=X6.cell 0 _ rfl
   have e1:=X6.cell 1 _ rfl
   have k0:=X6.free 0 (by simp)
   have k1:=X6.free 1 (by simp)
   have n53:b5 ≠ b3:=by omega
   have HX6:=hide X6
   have hrd6:=hrd5.below' hb6 hz15
   have hB6:Below b3 w2 w6:=HB5.out.trans (hb6.mono (Nat.le_of_lt zx))
   clear u0 u1 v0 v1 hwr5 hrd5 hrdc hw6 hb6 X6 Y6
   go_wp2_with fail
   go_roundw
   case rel =>
    refine ⟨k + 1,f.id,f.A,f.c,f.fs,by go_num,by omega,(HX6.out.set (j:=0) _ rfl).set (j:=1) _ rfl,?_,hide (by rw [wasP_succ,HGE.out];rfl),hide (fun j hj => ?_),below_set2 hB6 b3 (Nat.le_refl _) _ _⟩
    ·exact rd_set2 hrd6 b3 (Nat.le_of_lt z12) _ _
    ·by_cases e:j = k
     ·rw [e];exact HOK.out
     ·exact hall.out j (by omega)
   case measure => simp [intOf];omega
  ·have hallS:Hid (∀ j,j < (ss.map plS).length → sOk (ss.map plS) j = true):=hide (fun j hj => hall.out j (by rw [List.length_map] at hj;omega))
   have hfs:∀ s ∈ ss,s.fs.length ≤ 1000000:=fun s hs => by
    obtain ⟨j,hj,rfl⟩:=List.getElem_of_mem hs
    have h1:=hallS.out j (by rw [List.length_map];exact hj)
    unfold sOk at h1
    rw [plS_get] at h1
    simp only [Bool.and_eq_true,decide_eq_true_eq] at h1
    have h2:=(check_len h1.1).2.2
    have e:ss.getD j default = ss[j]:=by simp [List.getD,hj]
    rw [e] at h2
    show ss[j].fs.length ≤ 1000000
    have:(plS ss[j]).2 = ss[j].fs:=rfl
    rw [this] at h2
    omega
   have HFS:=hide hfs
   have hbrz:w2.heap.size ≤ wr.heap.size:=hbr.size
   have hTr:=hT2.below (hbr.mono (Nat.le_of_lt z12))
   have cb0:=(hbr.cell (p:=⟨b1,0,none⟩) z12).trans c0
   have cb1:=(hbr.cell (p:=⟨b1,1,none⟩) z12).trans c1
   have cb2:=(hbr.cell (p:=⟨b1,2,none⟩) z12).trans c2
   have hB0:Below b1 w wr:=hB2.trans (hbr.mono (Nat.le_of_lt z12))
   have zb1:b1 < wr.heap.size:=by omega
   clear hfs X hwr hwas hall hbr hT2 c0 c1 c2 x1b x2
   have x6:=boxN_new wr #[.int .u64 0,.int .u64 0,.int .u64 0,.int .u64 0,.int .u64 0,.int .u32 0,.slice none 0 0] 43
   have hb6:=(Below.refl wr.heap.size wr).alloc (Nat.le_refl _) (.cells #[.int .u64 0,.int .u64 0,.int .u64 0,.int .u64 0,.int .u64 0,.int .u32 0,.slice none 0 0] 43)
   have hT6:=hTr.below (hb6.mono (Nat.le_of_lt zb1))
   have d0:=(hb6.cell (p:=⟨b1,0,none⟩) zb1).trans cb0
   have d1:=(hb6.cell (p:=⟨b1,1,none⟩) zb1).trans cb1
   have d2:=(hb6.cell (p:=⟨b1,2,none⟩) zb1).trans cb2
   have hB6:Below b1 w _:=hB0.trans (hb6.mono (Nat.le_of_lt zb1))
   go_wp2_with fail
   generalize wr.alloc (.cells #[.int .u64 0,.int .u64 0,.int .u64 0,.int .u64 0,.int .u64 0,.int .u32 0,.slice none 0 0] 43) = w6 at *
   generalize wr.heap.size = b6 at *
   have z66:b6 < w6.heap.size:=x6.z
   clear hTr cb0 cb1 cb2 hB0 hb6
   clear hlt hk
   go_loopw [70] (fun iv wq => ∃ (k:Nat) (p:Sn) (A:Option Addr) (c:Nat),iv = .int .i64 (k:Int) ∧ k ≤ ns.length ∧ BoxN wq b6 #[.int .u64 (p.id.toNat:Int),.int .u64 (p.par.toNat:Int),.int .u64 (p.seq.toNat:Int),.int .u64 (p.off.toNat:Int),.int .u64 (p.tim.toNat:Int),.int .u32 (p.sch.toNat:Int),.slice A p.ms.length c].toList ∧ Hid (wasN (ns.map plN) k = p) ∧ Hid (∀ j,j < k → nOk (ss.map plS) (ns.map plN) j = true) ∧ Below b6 w6 wq) (fun iv _ => ns.length - (intOf iv).toNat)
   case atStart => exact ⟨0,default,none,0,rfl,Nat.zero_le _,x6,hide rfl,hide (fun j h => by omega),Below.refl _ _⟩
   case round =>
    clear hbrz
    obtain ⟨m,p,pA,pc,rfl,hm,X,hwas,hall,hbr⟩:=hrel
    have e0:=(hbr.cell (p:=⟨b1,0,none⟩) zb1).trans d0
    have e1:=(hbr.cell (p:=⟨b1,1,none⟩) zb1).trans d1
    have e2:=(hbr.cell (p:=⟨b1,2,none⟩) zb1).trans d2
    have hBr:Below b1 w wr:=hB6.trans (hbr.mono (Nat.le_of_lt zb1))
    have hTr:=(hT6.below (hbr.mono (Nat.le_of_lt zb1))).more (show b1 ≤ wr.heap.size by have:=hbr.size;omega)
    by_cases hlt:m < ns.length
    ·obtain ⟨b,off,rfl,hb,f0,f1,f2,f3,f4,f5,f6⟩:=hTr.nrow.nl hlt
     have hrd:=hTr.n_at hlt
     have hge:=plN_get ns m
     generalize hf:ns.getD m default = f at *
     have hno:=nOk_eq (ss:=ss.map plS) (s:=f.p) (was:=p) hge hwas.out
     have HNO:=hide hno
     have HGE:=hide hge
     have hlm:m < (ns.map plN).length:=by rw [List.length_map];exact hlt
     have HLM:=hide hlm
     clear hf hge hno hlm
     have y:=boxN_new wr #[.int .u64 (f.p.id.toNat:Int),.int .u64 (f.p.par.toNat:Int),.int .u64 (f.p.seq.toNat:Int),.int .u64 (f.p.off.toNat:Int),.int .u64 (f.p.tim.toNat:Int),.int .u32 (f.p.sch.toNat:Int),.slice f.A f.p.ms.length f.c] 43
     have hbA:=(Below.refl wr.heap.size wr).alloc (Nat.le_refl _) (.cells #[.int .u64 (f.p.id.toNat:Int),.int .u64 (f.p.par.toNat:Int),.int .u64 (f.p.seq.toNat:Int),.int .u64 (f.p.off.toNat:Int),.int .u64 (f.p.tim.toNat:Int),.int .u32 (f.p.sch.toNat:Int),.slice f.A f.p.ms.length f.c] 43)
     have X5:=X.keep hbA X.z
     have hz6:b6 < wr.heap.size:=X.z
     have hT5:=hTr.later hbA
     have hrd5:=(hrd.below hbA).more hbA.size
     have hB5:Below b6 w6 _:=below_call hbr (Nat.le_of_lt hz6) hbA
     have i0:=(hbA.cell (p:=⟨b1,0,none⟩) (show b1 < wr.heap.size by omega)).trans e0
     have i1:=(hbA.cell (p:=⟨b1,1,none⟩) (show b1 < wr.heap.size by omega)).trans e1
     have i2:=(hbA.cell (p:=⟨b1,2,none⟩) (show b1 < wr.heap.size by omega)).trans e2
     have hBr5:Below b1 w _:=below_call hBr (show b1 ≤ wr.heap.size by omega) hbA
     have g0:=y.cell 0 _ rfl
     have v0:=X5.cell 0 _ rfl
     have g1:=y.cell 1 _ rfl
     have v1:=X5.cell 1 _ rfl
     have g2:=y.cell 2 _ rfl
     have v2:=X5.cell 2 _ rfl
     have g3:=y.cell 3 _ rfl
     have v3:=X5.cell 3 _ rfl
     have g4:=y.cell 4 _ rfl
     have v4:=X5.cell 4 _ rfl
     have g5:=y.cell 5 _ rfl
     have v5:=X5.cell 5 _ rfl
     have g6:=y.cell 6 _ rfl
     have v6:=X5.cell 6 _ rfl
     have HX5:=hide X5
     have HY:=hide y
     clear y X5
     go_upto_region 15 with fail
     go_cut [70,100] from 70 to 143 (fun iv v wx => iv = .int .i64 (m:Int) ∧ v = .bool (!(n15 p f.p)) ∧ wx = wr.alloc (.cells #[.int .u64 (f.p.id.toNat:Int),.int .u64 (f.p.par.toNat:Int),.int .u64 (f.p.seq.toNat:Int),.int .u64 (f.p.off.toNat:Int),.int .u64 (f.p.tim.toNat:Int),.int .u32 (f.p.sch.toNat:Int),.slice f.A f.p.ms.length f.c] 43))
     case first =>
      by_cases h1:f.p.id.toNat ≤ p.id.toNat
      ·have HN:Hid (n15 p f.p = false):=hide (by unfold n15;rw [decide_eq_false (show ¬ p.id.toNat < f.p.id.toNat by omega)];rfl)
       go_wp2_with fail
       go_meet
       exact ⟨rfl,by rw [HN.out];rfl,rfl⟩
      by_cases h2:1073741824 < f.p.id.toNat
      ·have t2:decide ((1073741824:Int) < (f.p.id.toNat:Int)) = true:=decide_eq_true (by omega)
       have HN:Hid (n15 p f.p = false):=hide (by unfold n15;rw [decide_eq_false (show ¬ f.p.id.toNat ≤ 1073741824 by omega)];simp)
       clear h2
       go_wp2_with fail
       go_meet
       exact ⟨rfl,by rw [HN.out];rfl,rfl⟩
      have t2:decide ((1073741824:Int) < (f.p.id.toNat:Int)) = false:=decide_eq_false (by omega)
      by_cases h3:f.p.id.toNat ≤ f.p.par.toNat
      ·have HN:Hid (n15 p f.p = false):=hide (by unfold n15;rw [decide_eq_false (show ¬ f.p.par.toNat < f.p.id.toNat by omega)];simp)
       clear h2
       go_wp2_with fail
       go_meet
       exact ⟨rfl,by rw [HN.out];rfl,rfl⟩
      have HN:Hid (n15 p f.p = decide (f.p.seq.toNat ≤ 1073741824 ∧ f.p.off.toNat ≤ 1073741824 ∧ f.p.tim.toNat ≤ 1073741824)):=hide (by
       unfold n15
       rw [decide_eq_true (show p.id.toNat < f.p.id.toNat by omega),decide_eq_true (show f.p.id.toNat ≤ 1073741824 by omega),decide_eq_true (show f.p.par.toNat < f.p.id.toNat by omega)]
       rfl)
      generalize f.p.seq.toNat = q1 at *
      generalize f.p.off.toNat = q2 at *
      generalize f.p.tim.toNat = q3 at *
      clear h2
      go_wp2_with fail
      all_goals go_meet
      all_goals refine ⟨rfl,?_,rfl⟩
      all_goals rw [HN.out]
      all_goals clear HN
      all_goals congr 1
      all_goals rw [Bool.eq_iff_iff]
      all_goals simp only [decide_eq_true_eq,Bool.not_eq_true',decide_eq_false_iff_not]
      all_goals omega
     case rest =>
      obtain ⟨rfl,rfl,rfl⟩:=hcut
      generalize wr.alloc (.cells #[.int .u64 (f.p.id.toNat:Int),.int .u64 (f.p.par.toNat:Int),.int .u64 (f.p.seq.toNat:Int),.int .u64 (f.p.off.toNat:Int),.int .u64 (f.p.tim.toNat:Int),.int .u32 (f.p.sch.toNat:Int),.slice f.A f.p.ms.length f.c] 43) = w7 at *
      generalize wr.heap.size = b8 at *
      clear f0 f1 f2 f3 f4 f5 f6 e0 e1 e2 hBr hTr hrd X hbA hbr
      cases hn15:n15 p f.p with
      | false =>
        have HF:Hid (R = false):=hide (by rw [HR.out];exact right_n HLM.out (by rw [HNO.out,nOk_split,hn15];rfl))
        clear hn15
        go_wp2_with fail
        go_ret
        exact ⟨by rw [HF.out];rfl,by rw [HB1.out];exact hBr5⟩
      | true =>
        have HN15:=hide hn15
        clear hn15
        go_upto_region 17 with fail
        go_cut [70,132] from 70 to 143 (fun iv v wx => iv = .int .i64 (m:Int) ∧ v = .bool (!(n17 p f.p && namesOk f.p.ms)) ∧ Below w7.heap.size w7 wx)
        case first =>
         by_cases h0:f.p.seq.toNat < p.seq.toNat
         ·have HN:Hid (n17 p f.p = false):=hide (by unfold n17;rw [decide_eq_false (show ¬ p.seq.toNat ≤ f.p.seq.toNat by omega)];simp)
          go_wp2_with fail
          go_meet
          exact ⟨rfl,by rw [HN.out];rfl,Below.refl _ _⟩
         by_cases h1:f.p.off.toNat < p.off.toNat
         ·have HN:Hid (n17 p f.p = false):=hide (by unfold n17;rw [decide_eq_false (show ¬ p.off.toNat ≤ f.p.off.toNat by omega)];simp)
          go_wp2_with fail
          go_meet
          exact ⟨rfl,by rw [HN.out];rfl,Below.refl _ _⟩
         by_cases h2:f.p.tim.toNat < p.tim.toNat
         ·have HN:Hid (n17 p f.p = false):=hide (by unfold n17;rw [decide_eq_false (show ¬ p.tim.toNat ≤ f.p.tim.toNat by omega)];simp)
          go_wp2_with fail
          go_meet
          exact ⟨rfl,by rw [HN.out];rfl,Below.refl _ _⟩
         by_cases h3:f.p.sch.toNat < p.sch.toNat
         ·have HN:Hid (n17 p f.p = false):=hide (by unfold n17;rw [decide_eq_false (show ¬ p.sch.toNat ≤ f.p.sch.toNat by omega)];simp)
          go_wp2_with fail
          go_meet
          exact ⟨rfl,by rw [HN.out];rfl,Below.refl _ _⟩
         have HN:Hid (n17 p f.p = true):=hide (by unfold n17;rw [decide_eq_true (show p.seq.toNat ≤ f.p.seq.toNat by omega),decide_eq_true (show p.off.toNat ≤ f.p.off.toNat by omega),decide_eq_true (show p.tim.toNat ≤ f.p.tim.toNat by omega),decide_eq_true (show p.sch.toNat ≤ f.p.sch.toNat by omega)];rfl)
         go_wp2_with fail
         refine (metaNames w7 _ f.c f.A f.p.ms hrd5).mono ?_
         rintro e w8 ⟨rfl,hb8⟩
         go_wp2_with fail
         go_meet
         exact ⟨rfl,by rw [HN.out];rfl,hb8⟩
        case rest =>
         obtain ⟨rfl,rfl,hb8⟩:=hcut
         have X8:=HX5.out.keep hb8 HX5.out.z
         have Y8:=HY.out.keep hb8 HY.out.z
         have z8:b6 < w7.heap.size:=HX5.out.z
         have hT8:=hT5.later hb8
         have j0:=(hb8.cell (p:=⟨b1,0,none⟩) (show b1 < w7.heap.size by omega)).trans i0
         have j1:=(hb8.cell (p:=⟨b1,1,none⟩) (show b1 < w7.heap.size by omega)).trans i1
         have j2:=(hb8.cell (p:=⟨b1,2,none⟩) (show b1 < w7.heap.size by omega)).trans i2
         have hBr8:Below b1 w wc:=below_call hBr5 (show b1 ≤ w7.heap.size by omega) hb8
         have hB8:Below b6 w6 wc:=below_call hB5 (Nat.le_of_lt z8) hb8
         have zc:b6 < wc.heap.size:=Nat.lt_of_lt_of_le z8 hb8.size
         clear g0 v0 g1 v1 g2 v2 g3 v3 g4 v4 g5 v5 g6 v6 i0 i1 i2 hT5 hB5 hBr5 hrd5 hb8
         cases hn17:n17 p f.p && namesOk f.p.ms with
         | false =>
           have HF:Hid (R = false):=hide (by rw [HR.out];exact right_n HLM.out (by rw [HNO.out,nOk_split,HN15.out];simp only [Bool.true_and];rw [← Bool.and_assoc,hn17];rfl))
           clear hn17
           go_wp2_with fail
           go_ret
           exact ⟨by rw [HF.out];rfl,by rw [HB1.out];exact hBr8⟩
         | true =>
           have HN17:=hide hn17
           clear hn17
           have g0:=Y8.cell 0 _ rfl
           have g1:=Y8.cell 1 _ rfl
           have g2:=Y8.cell 2 _ rfl
           have g3:=Y8.cell 3 _ rfl
           have g4:=Y8.cell 4 _ rfl
           have g5:=Y8.cell 5 _ rfl
           have g6:=Y8.cell 6 _ rfl
           have HXY:=hide (And.intro X8 Y8)
           have HAS:=has_any ss f.p.sch
           have HH:=hide HAS
           clear X8 Y8 HAS
           go_wp2_with fail
           refine (metaShape wc sA sc ss _ nc ns cur hT8 (by have:=HL.out;omega) HFS.out f.p.sch).mono ?_
           rintro e w9 ⟨F,fc,rfl,_,hb9⟩
           obtain ⟨i,hi⟩:∃ i,i = cIx ss f.p.sch:=⟨_,rfl⟩
           rw [← hi]
           have HI:=hide hi
           generalize slId ss i = si at *
           generalize slFs ss i = sf at *
           clear hi
           have X9:=HXY.out.1.keep hb9 HXY.out.1.z
           have Y9:=HXY.out.2.keep hb9 HXY.out.2.z
           have hBr9:Below b1 w w9:=below_call hBr8 (show b1 ≤ wc.heap.size by omega) hb9
           have hB9:Below b6 w6 w9:=below_call hB8 (Nat.le_of_lt zc) hb9
           have z9:b6 < w9.heap.size:=Nat.lt_of_lt_of_le zc hb9.size
           clear g0 g1 g2 g3 g4 g5 g6 j0 j1 j2 hT8 hBr8 hB8 hb9
           cases hd:decide (0 ≤ i) with
           | false =>
             have HF:Hid (R = false):=hide (by rw [HR.out];exact right_n HLM.out (by rw [HNO.out,nOk_split,HN15.out];simp only [Bool.true_and];rw [← Bool.and_assoc,HN17.out,HH.out,← HI.out,hd];rfl))
             clear hd X9 Y9
             go_wp2_with fail
             go_ret
             exact ⟨by rw [HF.out];rfl,by rw [HB1.out];exact hBr9.alloc (show b1 ≤ w9.heap.size by omega) _⟩
           | true =>
             have HOK:Hid (nOk (ss.map plS) (ns.map plN) m = true):=hide (by rw [HNO.out,nOk_split,HN15.out];simp only [Bool.true_and];rw [← Bool.and_assoc,HN17.out,HH.out,← HI.out,hd];rfl)
             have hbT:=(Below.refl w9.heap.size w9).alloc (Nat.le_refl _) (.cells #[.int .u32 (si.toNat:Int),.slice F sf.length fc] 33)
             have XA:=X9.keep hbT X9.z
             have YA:=Y9.keep hbT Y9.z
             have hBA:Below b6 w6 _:=below_call hB9 (Nat.le_of_lt z9) hbT
             go_upto_region 22 with fail
             generalize w9.alloc (.cells #[.int .u32 (si.toNat:Int),.slice F sf.length fc] 33) = wT at *
             have g0:=YA.cell 0 _ rfl
             have g1:=YA.cell 1 _ rfl
             have g2:=YA.cell 2 _ rfl
             have g3:=YA.cell 3 _ rfl
             have g4:=YA.cell 4 _ rfl
             have g5:=YA.cell 5 _ rfl
             have g6:=YA.cell 6 _ rfl
             have v0:=XA.cell 0 _ rfl
             have k0:=XA.free 0 (by simp)
             have v1:=XA.cell 1 _ rfl
             have k1:=XA.free 1 (by simp)
             have v2:=XA.cell 2 _ rfl
             have k2:=XA.free 2 (by simp)
             have v3:=XA.cell 3 _ rfl
             have k3:=XA.free 3 (by simp)
             have v4:=XA.cell 4 _ rfl
             have k4:=XA.free 4 (by simp)
             have v5:=XA.cell 5 _ rfl
             have k5:=XA.free 5 (by simp)
             have v6:=XA.cell 6 _ rfl
             have k6:=XA.free 6 (by simp)
             have n86:b8 ≠ b6:=by omega
             have HXA:=hide XA
             clear hd X9 Y9 XA YA hB9 hBr9 hbT
             go_wp2_with fail
             go_roundw
             case rel =>
              refine ⟨m + 1,f.p,f.A,f.c,by go_num,by omega,HXA.out.set7,hide (by rw [wasN_succ,HGE.out];rfl),hide (fun j hj => ?_),below_set7 hBA (Nat.le_refl _)⟩
              by_cases e:j = m
              ·rw [e];exact HOK.out
              ·exact hall.out j (by omega)
             case measure => simp [intOf];omega
    ·have HF:Hid (R = decide (cur = p.id.toNat)):=hide (by
      rw [HR.out,right_all (by simp only [List.length_map];exact HL.out) hallS.out (fun j hj => hall.out j (by rw [List.length_map] at hj;omega))]
      rw [List.length_map,show ns.length = m by omega,hwas.out])
     have v0:=X.cell 0 _ rfl
     obtain ⟨eqb,heqb⟩:∃ eqb,eqb = decide (cur = p.id.toNat):=⟨_,rfl⟩
     have hq:((cur:Int) == (p.id.toNat:Int)) = eqb:=by rw [heqb,Bool.eq_iff_iff];simp;omega
     have HE:=hide heqb
     clear heqb
     go_wp2_with fail
     go_ret
     exact ⟨by rw [HF.out,← HE.out];first | rfl | (rw [hq];rfl),by rw [HB1.out];exact hBr⟩

section
open Go.RowKit

/-- a box whose block's type is known -/
structure BoxT (w:World) (b:Nat) (cs:List Value) (t:TypeId):Prop where
 bx:BoxN w b cs
 ty:∃ arr,w.heap[b]? = some (.cells arr t (0,0))
section
variable {w w':World} {b:Nat} {cs:List Value} {t:TypeId}
theorem boxT_new (w:World) (cs:Array Value) (t:TypeId):BoxT (w.alloc (.cells cs t)) w.heap.size cs.toList t:=⟨boxN_new w cs t,cs,heap_alloc_new w _⟩
theorem BoxT.keep (h:BoxT w b cs t) (hb:Below w.heap.size w w'):BoxT w' b cs t:=by
 obtain ⟨arr,ha⟩:=h.ty
 exact ⟨h.bx.keep hb h.bx.z,arr,(hb.block b h.bx.z).trans ha⟩
theorem BoxT.grown (h:BoxT w b cs t) {base sz n:Nat} {e:TypeId} {v:Value} {xs:List Value} (ho:w.ownsRow base e sz v n xs) (hg:w.grownBy w' v.ownBlock) (hne:e ≠ t):BoxT w' b cs t:=by
 obtain ⟨arr,ha⟩:=h.ty
 have hbk:w'.heap[b]? = w.heap[b]?:=by
  refine hg.block b h.bx.z ?_
  intro q
  rcases ho.2 with ⟨rfl,_⟩ | ⟨g,cap,cur,rfl,_,hgc,_⟩
  ·cases q
  ·simp only [Value.ownBlock] at q
   injection q with q
   subst q
   rw [ha] at hgc
   injection hgc with hgc
   injection hgc with _ q2 _
   exact hne q2.symm
 exact ⟨⟨fun j v hj => (World.cell?_of_block (w:=w) (a:=⟨b,j,none⟩) hbk).trans (h.bx.cell j v hj),fun j hj => (World.frozen?_of_block (w:=w) (a:=⟨b,j,none⟩) hbk).trans (h.bx.free j hj),Nat.lt_of_lt_of_le h.bx.z hg.size⟩,arr,hbk.trans ha⟩
theorem BoxT.set (h:BoxT w b cs t) {j:Nat} (x:Value) {u:Value} (hj:cs[j]? = some u):BoxT (w.setCell ⟨b,j,none⟩ x) b (cs.set j x) t:=by
 obtain ⟨arr,ha⟩:=h.ty
 exact ⟨h.bx.set x hj,arr.setIfInBounds j x,by simp [World.setCell,Array.getElem?_modify,ha]⟩
theorem own_setT {base sz n:Nat} {e:TypeId} {v:Value} {xs:List Value} (h:w.ownsRow base e sz v n xs) (hb:BoxT w b cs t) (hne:e ≠ t) (j:Nat) (x:Value):(w.setCell ⟨b,j,none⟩ x).ownsRow base e sz v n xs:=by
 obtain ⟨arr,ha⟩:=hb.ty
 refine h.kept (row:=some b) ⟨rfl,rfl,rfl,by simp [World.setCell],fun k _ hne => Below.heap_setCell _ _ _ _ (fun q => hne (by rw [q]))⟩ ?_
 rcases h.2 with ⟨rfl,_⟩ | ⟨g,cap,cur,rfl,_,hc,_⟩
 ·exact .inl rfl
 ·refine .inr fun q => ?_
  simp only [Value.ownBlock] at q
  injection q with q
  subst q
  rw [ha] at hc
  injection hc with hc
  injection hc with _ q2 _
  exact hne q2.symm
theorem OwnT.setT {B sc nc:Nat} {sA nA:Option Addr} {ss:List Sl} {ns:List Nl} (h:OwnT w B sA sc ss nA nc ns) (hb:BoxT w b cs 39) (j:Nat) (x:Value):OwnT (w.setCell ⟨b,j,none⟩ x) B sA sc ss nA nc ns :=
 ⟨own_setT h.sown hb (by decide) j x,fun s hs => own_setT (h.sin s hs) hb (by decide) j x,own_setT h.nown hb (by decide) j x,fun s hs => own_setT (h.nin s hs) hb (by decide) j x⟩
end
def pushErr (ss:List Ps) (ns:List Sn) (p:Sn):Nat:=if 32 ≤ ns.length then 4 else if rightP ss (ns ++ [p]) p.id.toNat = true then 0 else 1
/-- a table of one's own, with an error -/
def StepEnd (w:World) (er:Nat) (cs:List Ps) (cn:List Sn) (cur:Nat) (e:Ending) (w':World):Prop :=
 ∃ sA sc ss' nA nc ns',e = .returned (.tuple #[.agg #[.slice sA ss'.length sc,.slice nA ns'.length nc,.int .u64 (cur:Int)],.int .i64 (er:Int)]) ∧ OwnT w' w.heap.size sA sc ss' nA nc ns' ∧ ss'.map plS = cs ∧ ns'.map plN = cn ∧ Below w.heap.size w w'
def PushEnd (w:World) (ss:List Ps) (ns:List Sn) (p:Sn):Ending → World → Prop :=
 if pushErr ss ns p = 0 then StepEnd w 0 ss (ns ++ [p]) p.id.toNat else StepEnd w (pushErr ss ns p) [] [] 0
theorem step_bad (w w':World) (er:Nat) (h:Below w.heap.size w w'):StepEnd w er [] [] 0 (.returned (.tuple #[.agg #[.slice none 0 0,.slice none 0 0,.int .u64 0],.int .i64 (er:Int)])) w' :=
 ⟨none,0,[],none,0,[],rfl,OwnT.nil _ _,rfl,rfl,h⟩
theorem push_lit {w6 w5:World} {B b2 b3 b6 sc nc:Nat} {sA nA:Option Addr} {ss:List Sl} {ns:List Nl} {p:Sn} {A6:Option Addr} {c6:Nat} {cs2 cs3 cs6:List Value} (O:OwnT w6 B sA sc ss nA nc ns) (h6:w6.ownsRow w5.heap.size 9 1 (.slice A6 p.ms.length c6) p.ms.length (strsV p.ms)) (hB:B ≤ w5.heap.size) (hsz:w5.heap.size ≤ w6.heap.size) (X6:BoxT w6 b6 cs6 39) (X2:BoxN w6 b2 cs2) (X3:BoxN w6 b3 cs3) :
 OwnT (w6.alloc (.cells #[.int .u64 (p.id.toNat:Int),.int .u64 (p.par.toNat:Int),.int .u64 (p.seq.toNat:Int),.int .u64 (p.off.toNat:Int),.int .u64 (p.tim.toNat:Int),.int .u32 (p.sch.toNat:Int),.slice A6 p.ms.length c6] 43)) B sA sc ss nA nc ns ∧ (∀ j u,(nlV ⟨p,A6,c6⟩)[j]? = some u → (w6.alloc (.cells #[.int .u64 (p.id.toNat:Int),.int .u64 (p.par.toNat:Int),.int .u64 (p.seq.toNat:Int),.int .u64 (p.off.toNat:Int),.int .u64 (p.tim.toNat:Int),.int .u32 (p.sch.toNat:Int),.slice A6 p.ms.length c6] 43)).cell? ((⟨w6.heap.size,0,none⟩:Addr).add j) = some u) ∧ B ≤ (w6.alloc (.cells #[.int .u64 (p.id.toNat:Int),.int .u64 (p.par.toNat:Int),.int .u64 (p.seq.toNat:Int),.int .u64 (p.off.toNat:Int),.int .u64 (p.tim.toNat:Int),.int .u32 (p.sch.toNat:Int),.slice A6 p.ms.length c6] 43)).heap.size ∧
  (w6.alloc (.cells #[.int .u64 (p.id.toNat:Int),.int .u64 (p.par.toNat:Int),.int .u64 (p.seq.toNat:Int),.int .u64 (p.off.toNat:Int),.int .u64 (p.tim.toNat:Int),.int .u32 (p.sch.toNat:Int),.slice A6 p.ms.length c6] 43)).ownsRow B 9 1 (.slice A6 p.ms.length c6) p.ms.length (strsV p.ms) ∧ BoxT (w6.alloc (.cells #[.int .u64 (p.id.toNat:Int),.int .u64 (p.par.toNat:Int),.int .u64 (p.seq.toNat:Int),.int .u64 (p.off.toNat:Int),.int .u64 (p.tim.toNat:Int),.int .u32 (p.sch.toNat:Int),.slice A6 p.ms.length c6] 43)) b6 cs6 39 ∧ BoxN (w6.alloc (.cells #[.int .u64 (p.id.toNat:Int),.int .u64 (p.par.toNat:Int),.int .u64 (p.seq.toNat:Int),.int .u64 (p.off.toNat:Int),.int .u64 (p.tim.toNat:Int),.int .u32 (p.sch.toNat:Int),.slice A6 p.ms.length c6] 43)) b2 cs2 ∧ BoxN (w6.alloc (.cells #[.int .u64 (p.id.toNat:Int),.int .u64 (p.par.toNat:Int),.int .u64 (p.seq.toNat:Int),.int .u64 (p.off.toNat:Int),.int .u64 (p.tim.toNat:Int),.int .u32 (p.sch.toNat:Int),.slice A6 p.ms.length c6] 43)) b3 cs3:=by
 have hb:=(Below.refl w6.heap.size w6).alloc (Nat.le_refl _) (.cells #[.int .u64 (p.id.toNat:Int),.int .u64 (p.par.toNat:Int),.int .u64 (p.seq.toNat:Int),.int .u64 (p.off.toNat:Int),.int .u64 (p.tim.toNat:Int),.int .u32 (p.sch.toNat:Int),.slice A6 p.ms.length c6] 43)
 have y6:=boxN_new w6 #[.int .u64 (p.id.toNat:Int),.int .u64 (p.par.toNat:Int),.int .u64 (p.seq.toNat:Int),.int .u64 (p.off.toNat:Int),.int .u64 (p.tim.toNat:Int),.int .u32 (p.sch.toNat:Int),.slice A6 p.ms.length c6] 43
 refine ⟨O.keep hb,fun j u hu => ?_,by have:=hb.size;omega,(own_base h6 hB).alloc _,X6.keep hb,X2.keep hb X2.z,X3.keep hb X3.z⟩
 have:=y6.cell j u hu
 rw [Addr.add_lit,Nat.zero_add]
 exact this
theorem push_after {w7 w8:World} {B b2 b3 b6 sc nc g cap:Nat} {sA nA:Option Addr} {ss:List Sl} {ns:List Nl} {p:Sn} {A6:Option Addr} {c6:Nat} {cs2 cs3 cs6:List Value} (O:OwnT w7 B sA sc ss nA nc ns) (h6:w7.ownsRow B 9 1 (.slice A6 p.ms.length c6) p.ms.length (strsV p.ms)) (X6:BoxT w7 b6 cs6 39) (X2:BoxN w7 b2 cs2) (X3:BoxN w7 b3 cs3)
 (hown:w8.ownsRow B 43 7 (.slice (some ⟨g,0,none⟩) (ns.length + 1) cap) (ns.length + 1) (nlsV ns ++ nlV ⟨p,A6,c6⟩)) (hg:w7.grownBy w8 (Value.slice nA ns.length nc).ownBlock) (h2:b2 < B) (h3:b3 < B) (hsz:B ≤ w7.heap.size) :
 OwnT w8 B sA sc ss (some ⟨g,0,none⟩) cap (ns ++ [⟨p,A6,c6⟩]) ∧ BoxT w8 b6 cs6 39 ∧ BoxN w8 b2 cs2 ∧ BoxN w8 b3 cs3 ∧ Below B w7 w8:=by
 have hb:Below B w7 w8:=below_app (Below.refl _ _) (Nat.le_refl _) O.nown hg hsz
 obtain ⟨g',cap',q,O8⟩:=O.snocN (s:=⟨p,A6,c6⟩) h6 hown hg
 injection q with q1 q2 q3
 injection q1 with q1
 injection q1 with q1
 subst q1 q3
 exact ⟨O8,X6.grown O.nown hg (by decide),X2.keep hb h2,X3.keep hb h3,hb⟩
theorem push_leaf {w w7 w8:World} {B b1 b2 b3 b6 sc cap g:Nat} {sA:Option Addr} {ss:List Sl} {ns:List Nl} {s:Nl} {v0 v1 v2 v3:Value} {cs2 cs3:List Value} (hap:OwnT w8 B sA sc ss (some ⟨g,0,none⟩) cap (ns ++ [s]) ∧ BoxT w8 b6 #[v0,v1,v2].toList 39 ∧ BoxN w8 b2 cs2 ∧ BoxN w8 b3 cs3 ∧ Below B w7 w8) (hB:Below b1 w w7) (h1:b1 ≤ B) (h6:B ≤ b6) (h3:b3 < B) :
 ∃ g' cap' nd',nd'.map plN = ns.map plN ++ [s.p] ∧ BoxT ((w8.setCell ⟨b6,1,none⟩ (.slice (some ⟨g,0,none⟩) (ns.length + 1) cap)).setCell ⟨b6,2,none⟩ v3) b6 #[v0,.slice (some ⟨g',0,none⟩) nd'.length cap',v3].toList 39 ∧ OwnT ((w8.setCell ⟨b6,1,none⟩ (.slice (some ⟨g,0,none⟩) (ns.length + 1) cap)).setCell ⟨b6,2,none⟩ v3) B sA sc ss (some ⟨g',0,none⟩) cap' nd' ∧ BoxN ((w8.setCell ⟨b6,1,none⟩ (.slice (some ⟨g,0,none⟩) (ns.length + 1) cap)).setCell ⟨b6,2,none⟩ v3) b3 cs3 ∧ Below b1 w ((w8.setCell ⟨b6,1,none⟩ (.slice (some ⟨g,0,none⟩) (ns.length + 1) cap)).setCell ⟨b6,2,none⟩ v3):=by
 obtain ⟨O,X6,_,X3,hb⟩:=hap
 have X6a:=X6.set (j:=1) (.slice (some ⟨g,0,none⟩) (ns.length + 1) cap) rfl
 have X6b:=X6a.set (j:=2) v3 rfl
 have hne:b6 ≠ b3:=by omega
 refine ⟨g,cap,ns ++ [s],by simp [plN],?_,(O.setT X6 _ _).setT X6a _ _,(X3.else (p:=⟨b6,1,none⟩) hne _).else (p:=⟨b6,2,none⟩) hne _,?_⟩
 ·have e1:(ns ++ [s]).length = ns.length + 1:=by simp
  rw [e1]
  exact X6b
 ·exact ((hB.trans (hb.mono h1)).setCell (p:=⟨b6,1,none⟩) (show b1 ≤ b6 by omega) _).setCell (p:=⟨b6,2,none⟩) (show b1 ≤ b6 by omega) _
set_option maxHeartbeats 4000000 in
theorem metaPush (w:World) (sA:Option Addr) (sc:Nat) (ss:List Sl) (nA:Option Addr) (nc:Nat) (ns:List Nl) (cur:Nat) (hT:TabR w w.heap.size sA sc ss nA nc ns) (h1:ss.length ≤ 1000000) (h2:∀ s ∈ ss,s.fs.length ≤ 1000000) (h3:ns.length ≤ 1000000) (h4:∀ s ∈ ns,s.p.ms.length ≤ 1000000)
 (p:Sn) (pA:Option Addr) (pc:Nat) (hrp:Rd w w.heap.size 1 pA p.ms.length pc (strsV p.ms)) (hpm:p.ms.length ≤ 1000000) :
 Calls Tryz.prog 45 #[.agg #[.slice sA ss.length sc,.slice nA ns.length nc,.int .u64 (cur:Int)],.agg #[.int .u64 (p.id.toNat:Int),.int .u64 (p.par.toNat:Int),.int .u64 (p.seq.toNat:Int),.int .u64 (p.off.toNat:Int),.int .u64 (p.tim.toNat:Int),.int .u32 (p.sch.toNat:Int),.slice pA p.ms.length pc]] w (PushEnd w (ss.map plS) (ns.map plN) p):=by
 by_cases g32:32 ≤ ns.length
 ·have t1:decide ((32:Int) ≤ (ns.length:Int)) = true:=decide_eq_true (by omega)
  have hpe:pushErr (ss.map plS) (ns.map plN) p = 4:=by unfold pushErr;rw [if_pos (by rw [List.length_map];exact g32)]
  unfold PushEnd
  rw [hpe,if_neg (by decide)]
  clear g32 hpe
  go_enter Tryz.func45,Tryz.ntmps45
  go_wp2_with fail
  (try simp only [Exit.inBlock,Exit.then])
  have hb1:=(Below.refl w.heap.size w).alloc (Nat.le_refl _) (.cells #[.slice sA ss.length sc,.slice nA ns.length nc,.int .u64 (cur:Int)] 39)
  have hz1:(w.alloc (.cells #[.slice sA ss.length sc,.slice nA ns.length nc,.int .u64 (cur:Int)] 39)).heap.size = w.heap.size + 1:=by simp
  generalize w.alloc (.cells #[.slice sA ss.length sc,.slice nA ns.length nc,.int .u64 (cur:Int)] 39) = w1 at *
  have hb2:=hb1.alloc hb1.size (.cells #[.int .u64 (p.id.toNat:Int),.int .u64 (p.par.toNat:Int),.int .u64 (p.seq.toNat:Int),.int .u64 (p.off.toNat:Int),.int .u64 (p.tim.toNat:Int),.int .u32 (p.sch.toNat:Int),.slice pA p.ms.length pc] 43)
  have hz2:(w1.alloc (.cells #[.int .u64 (p.id.toNat:Int),.int .u64 (p.par.toNat:Int),.int .u64 (p.seq.toNat:Int),.int .u64 (p.off.toNat:Int),.int .u64 (p.tim.toNat:Int),.int .u32 (p.sch.toNat:Int),.slice pA p.ms.length pc] 43)).heap.size = w1.heap.size + 1:=by simp
  generalize w1.alloc (.cells #[.int .u64 (p.id.toNat:Int),.int .u64 (p.par.toNat:Int),.int .u64 (p.seq.toNat:Int),.int .u64 (p.off.toNat:Int),.int .u64 (p.tim.toNat:Int),.int .u32 (p.sch.toNat:Int),.slice pA p.ms.length pc] 43) = w2 at *
  have x3:=boxN_new w2 #[.slice none 0 0,.slice none 0 0,.int .u64 0] 39
  have hb3:=hb2.alloc hb2.size (.cells #[.slice none 0 0,.slice none 0 0,.int .u64 0] 39)
  rw [← hz1,← hz2]
  refine bodyPost_ret (ret_tb2 (b:=w2.heap.size) rfl _ _ rfl x3) rfl ?_
  exact step_bad w _ 4 hb3
 have t1:decide ((32:Int) ≤ (ns.length:Int)) = false:=decide_eq_false (by omega)
 obtain ⟨P',hP'⟩:∃ P',P' = PushEnd w (ss.map plS) (ns.map plN) p:=⟨_,rfl⟩
 rw [← hP']
 have HP:=hide hP'
 have H32:=hide g32
 clear g32 hP'
 go_enter Tryz.func45,Tryz.ntmps45
 go_wp2_with fail
 have hb1:=(Below.refl w.heap.size w).alloc (Nat.le_refl _) (.cells #[.slice sA ss.length sc,.slice nA ns.length nc,.int .u64 (cur:Int)] 39)
 have x1:=boxN_new w #[.slice sA ss.length sc,.slice nA ns.length nc,.int .u64 (cur:Int)] 39
 have hz1:(w.alloc (.cells #[.slice sA ss.length sc,.slice nA ns.length nc,.int .u64 (cur:Int)] 39)).heap.size = w.heap.size + 1:=by simp
 generalize w.alloc (.cells #[.slice sA ss.length sc,.slice nA ns.length nc,.int .u64 (cur:Int)] 39) = w1 at *
 have x2:=boxN_new w1 #[.int .u64 (p.id.toNat:Int),.int .u64 (p.par.toNat:Int),.int .u64 (p.seq.toNat:Int),.int .u64 (p.off.toNat:Int),.int .u64 (p.tim.toNat:Int),.int .u32 (p.sch.toNat:Int),.slice pA p.ms.length pc] 43
 have hb2:=(Below.refl w1.heap.size w1).alloc (Nat.le_refl _) (.cells #[.int .u64 (p.id.toNat:Int),.int .u64 (p.par.toNat:Int),.int .u64 (p.seq.toNat:Int),.int .u64 (p.off.toNat:Int),.int .u64 (p.tim.toNat:Int),.int .u32 (p.sch.toNat:Int),.slice pA p.ms.length pc] 43)
 have hz2:(w1.alloc (.cells #[.int .u64 (p.id.toNat:Int),.int .u64 (p.par.toNat:Int),.int .u64 (p.seq.toNat:Int),.int .u64 (p.off.toNat:Int),.int .u64 (p.tim.toNat:Int),.int .u32 (p.sch.toNat:Int),.slice pA p.ms.length pc] 43)).heap.size = w1.heap.size + 1:=by simp
 have x1b:=x1.keep hb2 x1.z
 have hB2:=below_call hb1 hb1.size hb2
 generalize w1.alloc (.cells #[.int .u64 (p.id.toNat:Int),.int .u64 (p.par.toNat:Int),.int .u64 (p.seq.toNat:Int),.int .u64 (p.off.toNat:Int),.int .u64 (p.tim.toNat:Int),.int .u32 (p.sch.toNat:Int),.slice pA p.ms.length pc] 43) = w2 at *
 have x3:=boxN_new w2 #[.slice none 0 0,.slice none 0 0,.int .u64 0] 39
 have hb3:=(Below.refl w2.heap.size w2).alloc (Nat.le_refl _) (.cells #[.slice none 0 0,.slice none 0 0,.int .u64 0] 39)
 have x1c:=x1b.keep hb3 x1b.z
 have x2c:=x2.keep hb3 x2.z
 have hB3:=below_call hB2 hB2.size hb3
 generalize w2.alloc (.cells #[.slice none 0 0,.slice none 0 0,.int .u64 0] 39) = w3 at *
 have hT3:=hT.later hB3
 have hrp3:=(hrp.below hB3).more hB3.size
 rw [← hz1,← hz2]
 have z12:w.heap.size < w1.heap.size:=by omega
 have z23:w1.heap.size < w2.heap.size:=by omega
 have z34:w2.heap.size < w3.heap.size:=x3.z
 generalize hb1e:w.heap.size = b1 at *
 generalize w1.heap.size = b2 at *
 generalize w2.heap.size = b3 at *
 have H1:=hide hb1e
 clear hz1 hz2 hb1 hb2 hb3 x1 x1b x2 hB2 hT hrp hb1e t1
 refine (metaCopied w3 sA sc ss nA nc ns cur hT3 h1 h2 h3 h4).mono ?_
 rintro e w4 ⟨oA,oc,sd,pA',pc',nd,rfl,O4,hps,hpn,hb4⟩
 have X2:=x2c.keep hb4 x2c.z
 have X3:=x3.keep hb4 x3.z
 have hrp4:=(hrp3.below hb4).more hb4.size
 have hB4:Below b1 w w4:=hB3.trans (hb4.mono (by omega))
 have hw4:w3.heap.size ≤ w4.heap.size:=hb4.size
 have HNL:Hid (nd.length = ns.length):=hide (by have:=congrArg List.length hpn;simpa using this)
 have HPS:=hide (And.intro hps hpn)
 clear x1c x2c x3 hT3 hrp3 hb4 hB3 hps hpn
 go_wp2_with fail
 have y:=boxT_new w4 #[.slice oA sd.length oc,.slice pA' nd.length pc',.int .u64 (cur:Int)] 39
 have hbA:=(Below.refl w4.heap.size w4).alloc (Nat.le_refl _) (.cells #[.slice oA sd.length oc,.slice pA' nd.length pc',.int .u64 (cur:Int)] 39)
 have X2b:=X2.keep hbA X2.z
 have X3b:=X3.keep hbA X3.z
 have O5:=O4.keep hbA
 have hrp5:=(hrp4.below hbA).more hbA.size
 have hB5:Below b1 w _:=below_call hB4 (show b1 ≤ w4.heap.size by omega) hbA
 have z45:w4.heap.size < (w4.alloc (.cells #[.slice oA sd.length oc,.slice pA' nd.length pc',.int .u64 (cur:Int)] 39)).heap.size:=by simp
 generalize w4.alloc (.cells #[.slice oA sd.length oc,.slice pA' nd.length pc',.int .u64 (cur:Int)] 39) = w5 at *
 generalize w4.heap.size = b6 at *
 clear X2 X3 O4 hrp4 hB4 hbA
 have u0:=X2b.cell 0 _ rfl
 have u1:=X2b.cell 1 _ rfl
 have u2:=X2b.cell 2 _ rfl
 have u3:=X2b.cell 3 _ rfl
 have u4:=X2b.cell 4 _ rfl
 have u5:=X2b.cell 5 _ rfl
 have u6:=X2b.cell 6 _ rfl
 have o1:=y.bx.cell 1 _ rfl
 have hw5:w3.heap.size ≤ w5.heap.size:=by omega
 have z2:b2 < w5.heap.size:=X2b.z
 have HY:=hide (And.intro y (And.intro O5 (And.intro X2b X3b)))
 obtain ⟨ti,hti,hti1,hti2,hti3⟩:=info_parts tySnaps.inf
 have hn6:nd.length ≤ 1000000:=by have:=HNL.out;omega
 clear y O5 X2b X3b
 go_cut [] from 14 to 24 (fun wx => ∃ g cap nd',nd'.map plN = nd.map plN ++ [p] ∧ BoxT wx b6 #[.slice oA sd.length oc,.slice (some ⟨g,0,none⟩) nd'.length cap,.int .u64 (p.id.toNat:Int)].toList 39 ∧ OwnT wx w3.heap.size oA oc sd (some ⟨g,0,none⟩) cap nd' ∧ BoxN wx b3 [.slice none 0 0,.slice none 0 0,.int .u64 0] ∧ Below b1 w wx)
 case first =>
  rename_i J K1 hJ hK1
  have q15:b1 ≤ w5.heap.size:=by omega
  have q13:b1 ≤ w3.heap.size:=by omega
  have hne:b6 ≠ b2:=by omega
  refine wp_region_held_drew (S:=fun w' => BoxN w' b2 #[.int .u64 (p.id.toNat:Int),.int .u64 (p.par.toNat:Int),.int .u64 (p.seq.toNat:Int),.int .u64 (p.off.toNat:Int),.int .u64 (p.tim.toNat:Int),.int .u32 (p.sch.toNat:Int),.slice pA p.ms.length pc].toList) (by kernel_rfl) ?_ (fun hHeld => ?_)
  ·exact ⟨HY.out.2.2.1.cell,HY.out.2.2.1.free,HY.out.2.2.1.z⟩
  refine wpAnyH_take (i:=0) (v:=?_) rfl (by kernel_rfl) (by kernel_rfl) (by kernel_rfl) (fun _ _ _ h => h) (Or.inl ⟨by rfl,?_⟩) hHeld ?_
  rotate_left 1
  ·(intro w hSw;go_simp;first | done | with_reducible rfl)
  (try simp only [Act.put,zA0])
  refine wpAnyH_take (i:=2) (v:=?_) rfl (by kernel_rfl) (by kernel_rfl) (by kernel_rfl) (fun _ _ _ h => h) (Or.inl ⟨by rfl,?_⟩) hHeld ?_
  rotate_left 1
  ·(intro w hSw;have q0:=hSw.cell 0 _ rfl;have q1:=hSw.cell 1 _ rfl;have q2:=hSw.cell 2 _ rfl;have q3:=hSw.cell 3 _ rfl;have q4:=hSw.cell 4 _ rfl;have q5:=hSw.cell 5 _ rfl;have q6:=hSw.cell 6 _ rfl;go_simp;first | done | with_reducible rfl)
  (try simp only [Act.put])
  refine wpAnyH_take (i:=6) (v:=?_) rfl (by kernel_rfl) (by kernel_rfl) (by kernel_rfl) (fun _ _ _ h => h) (Or.inl ⟨by rfl,?_⟩) hHeld ?_
  rotate_left 1
  ·(intro w hSw;go_simp;first | done | with_reducible rfl)
  (try simp only [Act.put])
  refine wpAnyH_take (i:=7) (v:=?_) rfl (by kernel_rfl) (by kernel_rfl) (by kernel_rfl) (fun _ _ _ h => h) (Or.inl ⟨by rfl,?_⟩) hHeld ?_
  rotate_left 1
  ·(intro w hSw;have q0:=hSw.cell 0 _ rfl;have q1:=hSw.cell 1 _ rfl;have q2:=hSw.cell 2 _ rfl;have q3:=hSw.cell 3 _ rfl;have q4:=hSw.cell 4 _ rfl;have q5:=hSw.cell 5 _ rfl;have q6:=hSw.cell 6 _ rfl;go_simp;first | done | with_reducible rfl)
  (try simp only [Act.put])
  refine wpAnyH_ready (rs:=[1,3]) (by kernel_rfl) (by simp) ?_
  refine AllReadyH.cons rfl (fun K hK => ?_) (AllReadyH.cons rfl (fun K hK => ?_) (AllReadyH.nil))
  ·go_simp
   refine hK.out _ _ hHeld (fun hHeld => ?_)
   clear hK K
   (try simp only [Act.put,zA0,zB0,zC0])
   refine wpAnyH_ready (rs:=[3]) (by kernel_rfl) (by simp) ?_
   refine AllReadyH.cons rfl (fun K hK => ?_) (AllReadyH.nil)
   ·go_simp
    go_at_call 105
    refine (metaOwn w5.drew p pA pc hrp5.drew hpm).mono ?_
    rintro e w6 ⟨A6,c6,rfl,hown6,hb6⟩
    have hb6':=below_of_drew hb6
    have X2d:=HY.out.2.2.1.keep hb6' z2
    have o1d:=(HY.out.1.keep hb6').bx.cell 1 _ rfl
    have hbL:=(Below.refl w6.heap.size w6).alloc (Nat.le_refl _) (.cells #[.int .u64 (p.id.toNat:Int),.int .u64 (p.par.toNat:Int),.int .u64 (p.seq.toNat:Int),.int .u64 (p.off.toNat:Int),.int .u64 (p.tim.toNat:Int),.int .u32 (p.sch.toNat:Int),.slice A6 p.ms.length c6] 43)
    have HL:=hide (push_lit (HY.out.2.1.keep hb6') hown6 hw5 hb6'.size (HY.out.1.keep hb6') (HY.out.2.2.1.keep hb6' z2) (HY.out.2.2.2.keep hb6' HY.out.2.2.2.z))
    have l1':=((HY.out.1.keep hb6').keep hbL).bx.cell 1 _ rfl
    clear hbL hown6 hb6
    dsimp only
    refine hK.out _ _ X2d (fun hHeld => ?_)
    clear hK K
    (try simp only [Act.put,zA0,zB0,zC0])
    refine wpAnyH_ready (rs:=[4]) (by kernel_rfl) (by simp) ?_
    refine AllReadyH.cons rfl (fun K hK => ?_) (AllReadyH.nil)
    ·go_simp
     refine hK.out _ _ HL.out.2.2.2.2.2.1 (fun hHeld => ?_)
     clear hK K
     (try simp only [Act.put,zA0,zB0,zC0])
     refine wpAnyH_ready (rs:=[5]) (by kernel_rfl) (by simp) ?_
     refine AllReadyH.cons rfl (fun K hK => ?_) (AllReadyH.nil)
     ·refine step_append_lies _ rfl (.tmp 15) (.tmp 18) 37 rfl w3.heap.size 43 ti _ 7 72 Tryz.underlying37 hti hti1 hti2 hti3 tySnaps.zs (by decide) _ nd.length (nlsV nd) (by simp [Act.eval]) HL.out.1.nown _ 1 1 (nlV ⟨p,A6,c6⟩) (by simp [Act.eval]) rfl HL.out.2.1 (nlV_one _) (by omega) (by unfold maxLen <;> omega) (by omega) HL.out.2.2.1 _ rfl ?_
      intro g cap w8 hown8 hg8 _ _
      have hap:=push_after HL.out.1 HL.out.2.2.2.1 HL.out.2.2.2.2.1 HL.out.2.2.2.2.2.1 HL.out.2.2.2.2.2.2 hown8 hg8 (Nat.lt_trans z23 z34) z34 HL.out.2.2.1
      have HAP:=hide hap
      have o1e:=HAP.out.2.1.bx.cell 1 _ rfl
      have o2e:=HAP.out.2.1.bx.cell 2 _ rfl
      have f1e:=HAP.out.2.1.bx.free 1 (by simp)
      have f2e:=HAP.out.2.1.bx.free 2 (by simp)
      clear hown8 hg8 hap
      refine hK.out _ _ HAP.out.2.2.1 (fun hHeld => ?_)
      clear hK K
      (try simp only [Act.put,zA0])
      refine wpAnyH_take (i:=8) (v:=?_) rfl (by kernel_rfl) (by kernel_rfl) (by kernel_rfl) (fun _ _ _ h => h) (Or.inl ⟨by rfl,?_⟩) hHeld ?_
      rotate_left 1
      ·(intro w hSw;go_simp;first | done | with_reducible rfl)
      (try simp only [Act.put])
      refine wpAnyH_ready (rs:=[9]) (by kernel_rfl) (by simp) ?_
      refine AllReadyH.cons rfl (fun K hK => ?_) (AllReadyH.nil)
      ·go_simp
       refine hK.out _ _ (HAP.out.2.2.1.else (p:=⟨b6,1,none⟩) hne _) (fun hHeld => ?_)
       clear hK K
       (try simp only [Act.put,zA0,zB0,zC0])
       refine wpAnyH_take (i:=10) (v:=?_) rfl (by kernel_rfl) (by kernel_rfl) (by kernel_rfl) (fun _ _ _ h => h) (Or.inl ⟨by rfl,?_⟩) hHeld ?_
       rotate_left 1
       ·(intro w hSw;go_simp;first | done | with_reducible rfl)
       (try simp only [Act.put,zA0])
       refine wpAnyH_ready (rs:=[11]) (by kernel_rfl) (by simp) ?_
       refine AllReadyH.cons rfl (fun K hK => ?_) (AllReadyH.nil)
       ·go_simp
        refine hK.out _ _ ((HAP.out.2.2.1.else (p:=⟨b6,1,none⟩) hne _).else (p:=⟨b6,2,none⟩) hne _) (fun hHeld => ?_)
        clear hK K
        (try simp only [Act.put,zA0,zB0,zC0])
        refine wpAnyH_done (by kernel_rfl) ?_ _
        refine hK1 _ _ ?_
        go_meet
        exact push_leaf HAP.out (below_call (hB5.trans (hb6'.mono q15)) (Nat.le_trans q15 hb6'.size) ((Below.refl w6.heap.size w6).alloc (Nat.le_refl _) _)) q13 hw4 z34
  ·go_simp
   go_at_call 105
   refine (metaOwn w5.drew p pA pc hrp5.drew hpm).mono ?_
   rintro e w6 ⟨A6,c6,rfl,hown6,hb6⟩
   have hb6':=below_of_drew hb6
   have X2d:=HY.out.2.2.1.keep hb6' z2
   have o1d:=(HY.out.1.keep hb6').bx.cell 1 _ rfl
   have hbL:=(Below.refl w6.heap.size w6).alloc (Nat.le_refl _) (.cells #[.int .u64 (p.id.toNat:Int),.int .u64 (p.par.toNat:Int),.int .u64 (p.seq.toNat:Int),.int .u64 (p.off.toNat:Int),.int .u64 (p.tim.toNat:Int),.int .u32 (p.sch.toNat:Int),.slice A6 p.ms.length c6] 43)
   have HL:=hide (push_lit (HY.out.2.1.keep hb6') hown6 hw5 hb6'.size (HY.out.1.keep hb6') (HY.out.2.2.1.keep hb6' z2) (HY.out.2.2.2.keep hb6' HY.out.2.2.2.z))
   have l1':=((HY.out.1.keep hb6').keep hbL).bx.cell 1 _ rfl
   clear hbL hown6 hb6
   dsimp only
   refine hK.out _ _ X2d (fun hHeld => ?_)
   clear hK K
   (try simp only [Act.put,zA0,zB0,zC0])
   refine wpAnyH_ready (rs:=[1,4]) (by kernel_rfl) (by simp) ?_
   refine AllReadyH.cons rfl (fun K hK => ?_) (AllReadyH.cons rfl (fun K hK => ?_) (AllReadyH.nil))
   ·go_simp
    refine hK.out _ _ hHeld (fun hHeld => ?_)
    clear hK K
    (try simp only [Act.put,zA0,zB0,zC0])
    refine wpAnyH_ready (rs:=[4]) (by kernel_rfl) (by simp) ?_
    refine AllReadyH.cons rfl (fun K hK => ?_) (AllReadyH.nil)
    ·go_simp
     refine hK.out _ _ HL.out.2.2.2.2.2.1 (fun hHeld => ?_)
     clear hK K
     (try simp only [Act.put,zA0,zB0,zC0])
     refine wpAnyH_ready (rs:=[5]) (by kernel_rfl) (by simp) ?_
     refine AllReadyH.cons rfl (fun K hK => ?_) (AllReadyH.nil)
     ·refine step_append_lies _ rfl (.tmp 15) (.tmp 18) 37 rfl w3.heap.size 43 ti _ 7 72 Tryz.underlying37 hti hti1 hti2 hti3 tySnaps.zs (by decide) _ nd.length (nlsV nd) (by simp [Act.eval]) HL.out.1.nown _ 1 1 (nlV ⟨p,A6,c6⟩) (by simp [Act.eval]) rfl HL.out.2.1 (nlV_one _) (by omega) (by unfold maxLen <;> omega) (by omega) HL.out.2.2.1 _ rfl ?_
      intro g cap w8 hown8 hg8 _ _
      have hap:=push_after HL.out.1 HL.out.2.2.2.1 HL.out.2.2.2.2.1 HL.out.2.2.2.2.2.1 HL.out.2.2.2.2.2.2 hown8 hg8 (Nat.lt_trans z23 z34) z34 HL.out.2.2.1
      have HAP:=hide hap
      have o1e:=HAP.out.2.1.bx.cell 1 _ rfl
      have o2e:=HAP.out.2.1.bx.cell 2 _ rfl
      have f1e:=HAP.out.2.1.bx.free 1 (by simp)
      have f2e:=HAP.out.2.1.bx.free 2 (by simp)
      clear hown8 hg8 hap
      refine hK.out _ _ HAP.out.2.2.1 (fun hHeld => ?_)
      clear hK K
      (try simp only [Act.put,zA0])
      refine wpAnyH_take (i:=8) (v:=?_) rfl (by kernel_rfl) (by kernel_rfl) (by kernel_rfl) (fun _ _ _ h => h) (Or.inl ⟨by rfl,?_⟩) hHeld ?_
      rotate_left 1
      ·(intro w hSw;go_simp;first | done | with_reducible rfl)
      (try simp only [Act.put])
      refine wpAnyH_ready (rs:=[9]) (by kernel_rfl) (by simp) ?_
      refine AllReadyH.cons rfl (fun K hK => ?_) (AllReadyH.nil)
      ·go_simp
       refine hK.out _ _ (HAP.out.2.2.1.else (p:=⟨b6,1,none⟩) hne _) (fun hHeld => ?_)
       clear hK K
       (try simp only [Act.put,zA0,zB0,zC0])
       refine wpAnyH_take (i:=10) (v:=?_) rfl (by kernel_rfl) (by kernel_rfl) (by kernel_rfl) (fun _ _ _ h => h) (Or.inl ⟨by rfl,?_⟩) hHeld ?_
       rotate_left 1
       ·(intro w hSw;go_simp;first | done | with_reducible rfl)
       (try simp only [Act.put,zA0])
       refine wpAnyH_ready (rs:=[11]) (by kernel_rfl) (by simp) ?_
       refine AllReadyH.cons rfl (fun K hK => ?_) (AllReadyH.nil)
       ·go_simp
        refine hK.out _ _ ((HAP.out.2.2.1.else (p:=⟨b6,1,none⟩) hne _).else (p:=⟨b6,2,none⟩) hne _) (fun hHeld => ?_)
        clear hK K
        (try simp only [Act.put,zA0,zB0,zC0])
        refine wpAnyH_done (by kernel_rfl) ?_ _
        refine hK1 _ _ ?_
        go_meet
        exact push_leaf HAP.out (below_call (hB5.trans (hb6'.mono q15)) (Nat.le_trans q15 hb6'.size) ((Below.refl w6.heap.size w6).alloc (Nat.le_refl _) _)) q13 hw4 z34
   ·go_simp
    refine hK.out _ _ HL.out.2.2.2.2.2.1 (fun hHeld => ?_)
    clear hK K
    (try simp only [Act.put,zA0,zB0,zC0])
    refine wpAnyH_ready (rs:=[1]) (by kernel_rfl) (by simp) ?_
    refine AllReadyH.cons rfl (fun K hK => ?_) (AllReadyH.nil)
    ·go_simp
     refine hK.out _ _ hHeld (fun hHeld => ?_)
     clear hK K
     (try simp only [Act.put,zA0,zB0,zC0])
     refine wpAnyH_ready (rs:=[5]) (by kernel_rfl) (by simp) ?_
     refine AllReadyH.cons rfl (fun K hK => ?_) (AllReadyH.nil)
     ·refine step_append_lies _ rfl (.tmp 15) (.tmp 18) 37 rfl w3.heap.size 43 ti _ 7 72 Tryz.underlying37 hti hti1 hti2 hti3 tySnaps.zs (by decide) _ nd.length (nlsV nd) (by simp [Act.eval]) HL.out.1.nown _ 1 1 (nlV ⟨p,A6,c6⟩) (by simp [Act.eval]) rfl HL.out.2.1 (nlV_one _) (by omega) (by unfold maxLen <;> omega) (by omega) HL.out.2.2.1 _ rfl ?_
      intro g cap w8 hown8 hg8 _ _
      have hap:=push_after HL.out.1 HL.out.2.2.2.1 HL.out.2.2.2.2.1 HL.out.2.2.2.2.2.1 HL.out.2.2.2.2.2.2 hown8 hg8 (Nat.lt_trans z23 z34) z34 HL.out.2.2.1
      have HAP:=hide hap
      have o1e:=HAP.out.2.1.bx.cell 1 _ rfl
      have o2e:=HAP.out.2.1.bx.cell 2 _ rfl
      have f1e:=HAP.out.2.1.bx.free 1 (by simp)
      have f2e:=HAP.out.2.1.bx.free 2 (by simp)
      clear hown8 hg8 hap
      refine hK.out _ _ HAP.out.2.2.1 (fun hHeld => ?_)
      clear hK K
      (try simp only [Act.put,zA0])
      refine wpAnyH_take (i:=8) (v:=?_) rfl (by kernel_rfl) (by kernel_rfl) (by kernel_rfl) (fun _ _ _ h => h) (Or.inl ⟨by rfl,?_⟩) hHeld ?_
      rotate_left 1
      ·(intro w hSw;go_simp;first | done | with_reducible rfl)
      (try simp only [Act.put])
      refine wpAnyH_ready (rs:=[9]) (by kernel_rfl) (by simp) ?_
      refine AllReadyH.cons rfl (fun K hK => ?_) (AllReadyH.nil)
      ·go_simp
       refine hK.out _ _ (HAP.out.2.2.1.else (p:=⟨b6,1,none⟩) hne _) (fun hHeld => ?_)
       clear hK K
       (try simp only [Act.put,zA0,zB0,zC0])
       refine wpAnyH_take (i:=10) (v:=?_) rfl (by kernel_rfl) (by kernel_rfl) (by kernel_rfl) (fun _ _ _ h => h) (Or.inl ⟨by rfl,?_⟩) hHeld ?_
       rotate_left 1
       ·(intro w hSw;go_simp;first | done | with_reducible rfl)
       (try simp only [Act.put,zA0])
       refine wpAnyH_ready (rs:=[11]) (by kernel_rfl) (by simp) ?_
       refine AllReadyH.cons rfl (fun K hK => ?_) (AllReadyH.nil)
       ·go_simp
        refine hK.out _ _ ((HAP.out.2.2.1.else (p:=⟨b6,1,none⟩) hne _).else (p:=⟨b6,2,none⟩) hne _) (fun hHeld => ?_)
        clear hK K
        (try simp only [Act.put,zA0,zB0,zC0])
        refine wpAnyH_done (by kernel_rfl) ?_ _
        refine hK1 _ _ ?_
        go_meet
        exact push_leaf HAP.out (below_call (hB5.trans (hb6'.mono q15)) (Nat.le_trans q15 hb6'.size) ((Below.refl w6.heap.size w6).alloc (Nat.le_refl _) _)) q13 hw4 z34
 case rest =>
  obtain ⟨g,cap,nd',hn',hX,hO,hX3,hb⟩:=hcut
  have hps:=HPS.out.1
  have hpn:nd'.map plN = ns.map plN ++ [p]:=by rw [hn',HPS.out.2]
  have HPN:=hide (And.intro hps hpn)
  have hzc:=hX.bx.z
  have c0:=hX.bx.cell 0 _ rfl
  have c1:=hX.bx.cell 1 _ rfl
  have c2:=hX.bx.cell 2 _ rfl
  clear hn' hps hpn HPS
  go_wp2_with fail
  refine (metaRight wc oA oc sd _ cap nd' p.id.toNat hO.tab).mono ?_
  rintro e w9 ⟨rfl,hb9⟩
  have X6:=hX.bx.keep hb9 hX.bx.z
  have X3:=hX3.keep hb9 hX3.z
  have O9:=hO.keep hb9
  have hB9:Below b1 w w9:=below_call hb (by omega) hb9
  rw [HPN.out.1,HPN.out.2]
  clear c0 c1 c2 hX hX3 hO hb hb9
  have k0:=X3.cell 0 _ rfl
  have f0:=X3.free 0 (by simp)
  have k1:=X3.cell 1 _ rfl
  have f1:=X3.free 1 (by simp)
  have k2:=X3.cell 2 _ rfl
  have f2:=X3.free 2 (by simp)
  have HX:=hide (And.intro X3 O9)
  cases hr:rightP (ss.map plS) (ns.map plN ++ [p]) p.id.toNat with
  | false =>
    have hpe:pushErr (ss.map plS) (ns.map plN) p = 1:=by unfold pushErr;rw [if_neg (by rw [List.length_map];exact H32.out),hr];rfl
    have HPE:=hide hpe
    clear hpe hr X3 X6 O9
    go_wp2_with fail
    (try simp only [Exit.inBlock,Exit.then])
    refine bodyPost_ret (ret_tb2 (b:=b3) rfl _ _ rfl HX.out.1.set3b) rfl ?_
    rw [HP.out]
    unfold PushEnd
    rw [HPE.out,if_neg (by decide)]
    exact step_bad w _ 1 (by rw [H1.out];exact below_set3b hB9 (by omega))
  | true =>
    have hpe:pushErr (ss.map plS) (ns.map plN) p = 0:=by unfold pushErr;rw [if_neg (by rw [List.length_map];exact H32.out),hr];rfl
    have HPE:=hide hpe
    have d0:=X6.cell 0 _ rfl
    have d1:=X6.cell 1 _ rfl
    have d2:=X6.cell 2 _ rfl
    clear hpe hr X3 X6 O9
    go_wp2_with fail
    (try simp only [Exit.inBlock,Exit.then])
    refine bodyPost_ret (ret_tb2 (b:=b3) rfl _ _ rfl HX.out.1.set3b) rfl ?_
    rw [HP.out]
    unfold PushEnd
    rw [HPE.out,if_pos rfl]
    exact ⟨oA,oc,sd,_,cap,nd',rfl,by rw [H1.out];exact (HX.out.2.set3b z34).base (by omega),HPN.out.1,HPN.out.2,by rw [H1.out];exact below_set3b hB9 (by omega)⟩
end
end
end Go.Proofs.YtpfofefecamkfaaGreatDoor
