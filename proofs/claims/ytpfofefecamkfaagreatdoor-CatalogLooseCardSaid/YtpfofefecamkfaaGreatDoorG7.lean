/- WHAT SERVES THE TABLES' STATEMENTS, part 7: MetaWT, MetaOW. No statement of the seat is proved here. -/
import Derived.Test.YtpfofefecamkfaaGreatDoorG6
namespace Go.Proofs.YtpfofefecamkfaaGreatDoor
open Go.RowKit
set_option maxRecDepth 100000


set_option maxHeartbeats 1000000 in
theorem metaText (w:World) (B:Nat) (l:List UInt8) (v:Value) (s:ByteArray) (hb:Buf B l v w) (hB:B ≤ w.heap.size) (hl:l.length + s.size ≤ 900000) :
 Calls Tryz.prog 155 #[v,.string s] w fun e w' => ∃ v',e = .returned v' ∧ Buf B (l ++ tx s) v' w' ∧ Bz B w w':=by
 have e33:IntKind.u64.wrap (s.size:Int) = (s.size:Int):=by rw [IntKind.wrap_u64];omega
 have e34:(s.size:Int) % 18446744073709551616 = (s.size:Int):=by omega
 have hp:=put_le10' s.size (by omega)
 go_enter Tryz.func155,Tryz.ntmps155
 go_wp2_with fail
 refine (varPut (s.size:Int) w (by omega) (by omega)).mono ?_
 rintro e w1 ⟨v1,rfl,hown1,hb1⟩
 rw [Int.toNat_natCast] at hown1
 obtain ⟨A1,c1,rfl⟩:=own_slice hown1
 have hbuf1:Buf B l v w1:=own_below hb hb1
 have hr1:=rd_own hown1
 have hB1:B ≤ w1.heap.size:=Nat.le_trans hB hb1.size
 clear e33 e34
 go_wp2_with (first
  | (at_builtin;refine wpList_buf rfl (.tmp 5) (.tmp 9) rfl rfl hbuf1 A1 _ c1 _ rfl hr1 (by omega) hB1 ?_;intro v2 w2 hbuf2 hz2;have hB2:=Nat.le_trans hB1 hz2.size;have hl2:(l ++ Var.put s.size).length = l.length + (Var.put s.size).length:=List.length_append)
  | (at_builtin;refine wpList_bufS rfl (.tmp 10) (.tmp 11) rfl rfl hbuf2 s rfl (by omega) hB2 ?_;intro v3 w3 hbuf3 hz3))
 go_ret
 refine ⟨v3,rfl,?_,(Bz.of hb1).trans (hz2.trans hz3)⟩
 unfold tx
 rw [← List.append_assoc]
 exact hbuf3
set_option maxHeartbeats 4000000 in
theorem metaWrite (w:World) (sA:Option Addr) (sc:Nat) (ss:List Sl) (nA:Option Addr) (nc:Nat) (ns:List Nl) (cur:Nat) (hT:TabR w w.heap.size sA sc ss nA nc ns) (ht:Table w) :
 Calls Tryz.prog 85 #[.agg #[.slice sA ss.length sc,.slice nA ns.length nc,.int .u64 (cur:Int)]] w (WrEnd w (ss.map plS) (ns.map plN) cur):=by
 have HT:=hide ht
 have hpos:=ht.pos
 clear ht
 go_enter Tryz.func85,Tryz.ntmps85
 go_wp2_with fail
 have x1:=boxT_new w #[.slice sA ss.length sc,.slice nA ns.length nc,.int .u64 (cur:Int)] 39
 have hb1:=(Below.refl w.heap.size w).alloc (Nat.le_refl _) (.cells #[.slice sA ss.length sc,.slice nA ns.length nc,.int .u64 (cur:Int)] 39)
 generalize w.alloc (.cells #[.slice sA ss.length sc,.slice nA ns.length nc,.int .u64 (cur:Int)] 39) = w1 at *
 have hT1:=hT.later hb1
 obtain ⟨bx,hbx⟩:∃ b,b = w.heap.size:=⟨_,rfl⟩
 rw [← hbx] at x1 ⊢
 have HBX:=hide hbx
 clear hbx hT
 refine (metaRight w1 sA sc ss nA nc ns cur hT1).mono ?_
 rintro e w2 ⟨rfl,hb2⟩
 have hB2:=below_call hb1 hb1.size hb2
 have X2:=x1.keep hb2
 have hT2:=hT1.later hb2
 clear x1 hT1 hb1 hb2
 cases hr:rightP (ss.map plS) (ns.map plN) cur with
 | false =>
   have HR:=hide hr
   clear hr
   go_wp2_with fail
   go_ret2
   exact .inr ⟨HR.out,rfl,hB2⟩
 | true =>
   have HR:=hide hr
   have HH:=hide (right_has hr)
   have hls:ss.length ≤ 16:=by have:=HH.out.1.2.1;simpa using this
   have hln:ns.length ≤ 32:=by have:=HH.out.1.2.2;simpa using this
   clear hr
   have kc:=Lib.run_convert_bytes_const (P:=Tryz.prog) w2 55 5 #[.int .u8 84,.int .u8 70,.int .u8 49] 3 3 Tryz.underlying55 Tryz.underlying5
   have hb3:=(Below.refl w2.heap.size w2).alloc (Nat.le_refl _) (.cells #[.int .u8 84,.int .u8 70,.int .u8 49] 5 (3,4))
   have hl3:∀ j u,(bytesV tf1)[j]? = some u → (w2.alloc (.cells #[.int .u8 84,.int .u8 70,.int .u8 49] 5 (3,4))).cell? ⟨w2.heap.size,j,none⟩ = some u:=fun j u hj => by
    have e:(#[Value.int .u8 84,.int .u8 70,.int .u8 49]:Array Value).toList = bytesV tf1:=rfl
    rw [World.cell?_alloc_mark, ← Array.getElem?_toList,e]
    exact hj
   have X3:=X2.keep hb3
   have zz3:w2.heap.size < (w2.alloc (.cells #[.int .u8 84,.int .u8 70,.int .u8 49] 5 (3,4))).heap.size:=by simp
   have c0:=X3.bx.cell 0 _ rfl
   have e33:IntKind.u64.wrap (ss.length:Int) = (ss.length:Int):=by rw [IntKind.wrap_u64];omega
   have e34:(ss.length:Int) % 18446744073709551616 = (ss.length:Int):=by omega
   have hp:=put_le10' ss.length (by omega)
   have hp1:=put_pos ss.length
   go_wp2_with fail
   generalize w2.alloc (.cells #[.int .u8 84,.int .u8 70,.int .u8 49] 5 (3,4)) = w3 at *
   have hB3:w2.heap.size ≤ w3.heap.size:=hb3.size
   refine (varPut (ss.length:Int) w3 (by omega) (by omega)).mono ?_
   rintro e w4 ⟨v4,rfl,hown4,hb4⟩
   rw [Int.toNat_natCast] at hown4
   have hl4:∀ j u,(bytesV tf1)[j]? = some u → w4.cell? ⟨w2.heap.size,j,none⟩ = some u:=fun j u hj => (hb4.cell (p:=⟨w2.heap.size,j,none⟩) zz3).trans (hl3 j u hj)
   have X4:=X3.keep hb4
   have hB4:w2.heap.size ≤ w4.heap.size:=Nat.le_trans hB3 hb4.size
   have htf:tf1.length = 3:=rfl
   have X3b:=hide X3
   clear kc e33 e34 c0 X2 X3 hl3
   go_wp2_with (at_builtin;refine wpList_bufNew (l:=tf1) rfl (.tmp 17) (.tmp 22) rfl rfl hl4 rfl hown4 hp1 (by omega) ?_;intro v5 w5 o5' hb5;have o5:Buf w2.heap.size (tf1 ++ Var.put ss.length) v5 w5:=(own_base o5' hB4);have X5:=X4.keep hb5;have c0:=X5.bx.cell 0 _ rfl;have Z5:=(Bz.of (B:=w2.heap.size) hb4).trans (Bz.of hb5);clear o5' hown4 X4 hb4 hb5 hl4)
   go_loopw [4,27] (fun bv0 iv wr => ∃ (bv:Value) (k:Nat) (q:List UInt8),bv0 = bv ∧ iv = .int .i64 (k:Int) ∧ k ≤ ss.length ∧ Buf w2.heap.size q bv wr ∧ Hid (q = wr0 (ss.map plS) ++ packs ((ss.map plS).take k)) ∧ Bz w2.heap.size w3 wr) (fun _ iv _ => ss.length - (intOf iv).toNat)
   case atStart => exact ⟨_,0,tf1 ++ Var.put ss.length,rfl,rfl,Nat.zero_le _,o5,hide (by unfold wr0 packs;rw [List.length_map];simp),Z5⟩
   case round =>
    clear o5 Z5 c0 X5
    obtain ⟨bv,k,q,rfl,rfl,hk,ob,hq,hz⟩:=hrel
    have XR:=X3b.out.bz hz (by decide)
    have hBr:w2.heap.size ≤ wr.heap.size:=Nat.le_trans hB3 hz.size
    have hTr:=(hT2.below (hb3.trans (hz.below hB3))).more hBr
    have hlq:q.length ≤ 7000:=by
     have e:(packs ((ss.map plS).take k)).length ≤ ((ss.map plS).take k).length * 400:=packs_le fun s hs => HH.out.2.1 s (List.mem_of_mem_take hs)
     have e2:((ss.map plS).take k).length ≤ 16:=by rw [List.length_take,List.length_map];omega
     have e3:(wr0 (ss.map plS)).length ≤ 13:=by unfold wr0;rw [List.length_append,List.length_map];omega
     have e4:((ss.map plS).take k).length * 400 ≤ 16 * 400:=Nat.mul_le_mul_right _ e2
     rw [hq.out,List.length_append]
     omega
    by_cases hlt:k < ss.length
    ·obtain ⟨b,off,rfl,hb,f0,f1⟩:=hTr.srow.sl hlt
     have hrd:=hTr.s_at hlt
     have hck:=HH.out.2.1 _ (getD_mem (l:=ss.map plS) (i:=k) (by rw [List.length_map];exact hlt))
     have hnx:=flat_next (f:=fun s:Ps => pack s.1 s.2) (l:=ss.map plS) (k:=k) (by rw [List.length_map];exact hlt)
     have hge:(ss.map plS).getD k default = plS (ss.getD k default):=plS_get ss k
     rw [hge] at hck hnx
     generalize hf:ss.getD k default = f at *
     have HNX:=hide hnx
     have HCK:=hide hck
     have hpl:(pack f.id f.fs).length ≤ 400:=pack_le hck
     clear hf hge hck hnx hTr
     have hbA:=(Below.refl wr.heap.size wr).alloc (Nat.le_refl _) (.cells #[.int .u32 (f.id.toNat:Int),.slice f.A f.fs.length f.c] 33)
     have y:=boxN_new wr #[.int .u32 (f.id.toNat:Int),.slice f.A f.fs.length f.c] 33
     have oA:=ob.keep hbA
     have hrdA:=(hrd.below hbA).more hbA.size
     have u0:=y.cell 0 _ rfl
     have u1:=y.cell 1 _ rfl
     have zA:Bz w2.heap.size w3 _:=hz.trans (Bz.of hbA)
     have hBA:w2.heap.size ≤ (wr.alloc (.cells #[.int .u32 (f.id.toNat:Int),.slice f.A f.fs.length f.c] 33)).heap.size:=Nat.le_trans hBr hbA.size
     go_wp2_with fail
     generalize wr.alloc (.cells #[.int .u32 (f.id.toNat:Int),.slice f.A f.fs.length f.c] 33) = wA at *
     refine (schPack wA f.id _ f.c f.A f.fs hrdA (sized_of HCK.out)).mono ?_
     rintro e w6 ⟨v6,rfl,hown6,hb6⟩
     obtain ⟨A6,c6,rfl⟩:=own_slice hown6
     have o6:=oA.keep hb6
     have hr6:=rd_own hown6
     have hB6:w2.heap.size ≤ w6.heap.size:=Nat.le_trans hBA hb6.size
     clear u0 u1 f0 f1 hrd hrdA ob oA hown6 hbA y hz
     go_wp2_with (at_builtin;refine wpList_buf rfl (.tmp 31) (.tmp 33) rfl rfl o6 A6 _ c6 _ rfl hr6 (by omega) hB6 ?_;intro v7 w7 o7 hz7;have Z7:=zA.trans ((Bz.of hb6).trans hz7);clear o6 hr6 hb6 zA hz7)
     go_roundw
     case rel => exact ⟨_,k + 1,q ++ pack f.id f.fs,rfl,by go_num,hlt,o7,hide (by rw [hq.out];unfold packs;rw [HNX.out,List.append_assoc];rfl),Z7⟩
     case measure => simp [intOf];omega
    ·have HQ:Hid (q = wr0 (ss.map plS) ++ packs (ss.map plS)):=hide (by rw [hq.out,List.take_of_length_le (by rw [List.length_map];omega)])
     have c0:=XR.bx.cell 0 _ rfl
     have c1:=XR.bx.cell 1 _ rfl
     have e33:IntKind.u64.wrap (ns.length:Int) = (ns.length:Int):=by rw [IntKind.wrap_u64];omega
     have e34:(ns.length:Int) % 18446744073709551616 = (ns.length:Int):=by omega
     have hpn:=put_le10' ns.length (by omega)
     clear hq hTr hk
     go_wp2_with fail
     refine (varPut (ns.length:Int) wr (by omega) (by omega)).mono ?_
     rintro e w6 ⟨v6,rfl,hown6,hb6⟩
     rw [Int.toNat_natCast] at hown6
     obtain ⟨A6,c6,rfl⟩:=own_slice hown6
     have o6:=ob.keep hb6
     have hr6:=rd_own hown6
     have hB6:w2.heap.size ≤ w6.heap.size:=Nat.le_trans hBr hb6.size
     have X6:=XR.keep hb6
     have z6:=hz.trans (Bz.of hb6)
     clear e33 e34 c0 c1 ob hown6 hb6 XR hz hlt
     go_wp2_with (at_builtin;refine wpList_buf rfl (.tmp 36) (.tmp 41) rfl rfl o6 A6 _ c6 _ rfl hr6 (by omega) hB6 ?_;intro v7 w7 o7 hz7;have X7:=X6.bz hz7 (by decide);have c1:=X7.bx.cell 1 _ rfl;have Z7:=z6.trans hz7;clear o6 hr6 z6 hz7 X6)
     have hl7:(q ++ Var.put ns.length).length ≤ 7010:=by rw [List.length_append];omega
     go_loopw [4,46] (fun bv0 iv wr => ∃ (bv:Value) (k:Nat) (q:List UInt8),bv0 = bv ∧ iv = .int .i64 (k:Int) ∧ k ≤ ns.length ∧ Buf w2.heap.size q bv wr ∧ Hid (q = wr1 (ss.map plS) (ns.map plN) ++ snBs ((ns.map plN).take k)) ∧ Bz w2.heap.size w3 wr) (fun _ iv _ => ns.length - (intOf iv).toNat)
     case atStart => exact ⟨_,0,_,rfl,rfl,Nat.zero_le _,o7,hide (by unfold wr1 snBs;rw [HQ.out,List.length_map];simp),Z7⟩
     case round =>
      clear o7 Z7 c1 X7 hl7 hlq hBr HQ
      obtain ⟨bv,m,p,rfl,rfl,hm,ob,hqm,hz⟩:=hrel
      have XR:=X3b.out.bz hz (by decide)
      have hBr:w2.heap.size ≤ wr.heap.size:=Nat.le_trans hB3 hz.size
      have hTr:=(hT2.below (hb3.trans (hz.below hB3))).more hBr
      have hlp:p.length ≤ 20000:=by
       have e:(snBs ((ns.map plN).take m)).length ≤ ((ns.map plN).take m).length * 342:=snBs_le fun s hs => HH.out.2.2 s (List.mem_of_mem_take hs)
       have e2:((ns.map plN).take m).length ≤ 32:=by rw [List.length_take,List.length_map];omega
       have e4:((ns.map plN).take m).length * 342 ≤ 32 * 342:=Nat.mul_le_mul_right _ e2
       have e5:(packs (ss.map plS)).length ≤ (ss.map plS).length * 400:=packs_le HH.out.2.1
       have e6:(ss.map plS).length * 400 ≤ 16 * 400:=Nat.mul_le_mul_right _ (by rw [List.length_map];exact hls)
       have e3:(wr1 (ss.map plS) (ns.map plN)).length ≤ 6423:=by unfold wr1 wr0;simp only [List.length_append];rw [List.length_map,List.length_map];omega
       rw [hqm.out,List.length_append]
       omega
      by_cases hltm:m < ns.length
      ·obtain ⟨b,off,rfl,hb,f0,f1,f2,f3,f4,f5,f6⟩:=hTr.nrow.nl hltm
       have hin:=hT2.n_at hltm
       have hnm:=HH.out.2.2 _ (getD_mem (l:=ns.map plN) (i:=m) (by rw [List.length_map];exact hltm))
       have hnx:=flat_next (f:=snB) (l:=ns.map plN) (k:=m) (by rw [List.length_map];exact hltm)
       have hge:(ns.map plN).getD m default = plN (ns.getD m default):=plN_get ns m
       rw [hge] at hnm hnx
       generalize hf:ns.getD m default = f at *
       have HNX:=hide hnx
       have HNM:=hide (names_at hnm)
       have h8:f.p.ms.length ≤ 8:=HNM.out.1
       clear hf hge hnm hnx hTr
       have hbA:=(Below.refl wr.heap.size wr).alloc (Nat.le_refl _) (.cells #[.int .u64 (f.p.id.toNat:Int),.int .u64 (f.p.par.toNat:Int),.int .u64 (f.p.seq.toNat:Int),.int .u64 (f.p.off.toNat:Int),.int .u64 (f.p.tim.toNat:Int),.int .u32 (f.p.sch.toNat:Int),.slice f.A f.p.ms.length f.c] 43)
       have y:=boxT_new wr #[.int .u64 (f.p.id.toNat:Int),.int .u64 (f.p.par.toNat:Int),.int .u64 (f.p.seq.toNat:Int),.int .u64 (f.p.off.toNat:Int),.int .u64 (f.p.tim.toNat:Int),.int .u32 (f.p.sch.toNat:Int),.slice f.A f.p.ms.length f.c] 43
       have oA:=ob.keep hbA
       have zA:Bz w2.heap.size w3 _:=hz.trans (Bz.of hbA)
       have hBA:w2.heap.size ≤ (wr.alloc (.cells #[.int .u64 (f.p.id.toNat:Int),.int .u64 (f.p.par.toNat:Int),.int .u64 (f.p.seq.toNat:Int),.int .u64 (f.p.off.toNat:Int),.int .u64 (f.p.tim.toNat:Int),.int .u32 (f.p.sch.toNat:Int),.slice f.A f.p.ms.length f.c] 43)).heap.size:=Nat.le_trans hBr hbA.size
       have u0:=y.bx.cell 0 _ rfl
       have u1:=y.bx.cell 1 _ rfl
       have u2:=y.bx.cell 2 _ rfl
       have u3:=y.bx.cell 3 _ rfl
       have u4:=y.bx.cell 4 _ rfl
       have u5:=y.bx.cell 5 _ rfl
       have u6:=y.bx.cell 6 _ rfl
       go_upto_region 13 with fail
       generalize wr.alloc (.cells #[.int .u64 (f.p.id.toNat:Int),.int .u64 (f.p.par.toNat:Int),.int .u64 (f.p.seq.toNat:Int),.int .u64 (f.p.off.toNat:Int),.int .u64 (f.p.tim.toNat:Int),.int .u32 (f.p.sch.toNat:Int),.slice f.A f.p.ms.length f.c] 43) = wA at *
       generalize wr.heap.size = b8 at *
       have hs32:=f.p.sch.toNat_lt
       have e31:IntKind.u64.wrap (f.p.sch.toNat:Int) = (f.p.sch.toNat:Int):=by rw [IntKind.wrap_u64];omega
       have e32:(f.p.sch.toNat:Int) % 18446744073709551616 = (f.p.sch.toNat:Int):=by omega
       have e33:IntKind.u64.wrap (f.p.ms.length:Int) = (f.p.ms.length:Int):=by rw [IntKind.wrap_u64];omega
       have e34:(f.p.ms.length:Int) % 18446744073709551616 = (f.p.ms.length:Int):=by omega
       have hbL:=(Below.refl wA.heap.size wA).alloc (Nat.le_refl _) (.cells #[.int .u64 (f.p.id.toNat:Int),.int .u64 (f.p.par.toNat:Int),.int .u64 (f.p.seq.toNat:Int),.int .u64 (f.p.off.toNat:Int),.int .u64 (f.p.tim.toNat:Int),.int .u64 (f.p.sch.toNat:Int),.int .u64 (f.p.ms.length:Int)] 35)
       have L:=boxT_new wA #[.int .u64 (f.p.id.toNat:Int),.int .u64 (f.p.par.toNat:Int),.int .u64 (f.p.seq.toNat:Int),.int .u64 (f.p.off.toNat:Int),.int .u64 (f.p.tim.toNat:Int),.int .u64 (f.p.sch.toNat:Int),.int .u64 (f.p.ms.length:Int)] 35
       have yL:=y.keep hbL
       have oL:=oA.keep hbL
       have zL:Bz w2.heap.size w3 _:=zA.trans (Bz.of hbL)
       have hBL:w2.heap.size ≤ (wA.alloc (.cells #[.int .u64 (f.p.id.toNat:Int),.int .u64 (f.p.par.toNat:Int),.int .u64 (f.p.seq.toNat:Int),.int .u64 (f.p.off.toNat:Int),.int .u64 (f.p.tim.toNat:Int),.int .u64 (f.p.sch.toNat:Int),.int .u64 (f.p.ms.length:Int)] 35)).heap.size:=Nat.le_trans hBA hbL.size
       clear f0 f1 f2 f3 f4 f5 f6 ob oA zA hbA hz
       go_wp2_with fail
       generalize wA.alloc (.cells #[.int .u64 (f.p.id.toNat:Int),.int .u64 (f.p.par.toNat:Int),.int .u64 (f.p.seq.toNat:Int),.int .u64 (f.p.off.toNat:Int),.int .u64 (f.p.tim.toNat:Int),.int .u64 (f.p.sch.toNat:Int),.int .u64 (f.p.ms.length:Int)] 35) = wL at *
       generalize wA.heap.size = bl at *
       clear e31 e32 e33 e34 u0 u1 u2 u3 u4 u5 u6 hs32
       have hnl:=nums_le (p:=f.p) h8
       have HNL:=hide hnl
       have HL:Hid (BoxT wL bl ((nums f.p).map fun n:Nat => Value.int .u64 (n:Int)) 35):=hide L
       clear hnl L y
       have HY:=hide yL
       clear yL
       go_loopw [4,69] (fun bv0 iv wq => ∃ (bv:Value) (k:Nat) (q:List UInt8),bv0 = bv ∧ iv = .int .i64 (k:Int) ∧ k ≤ 7 ∧ Buf w2.heap.size q bv wq ∧ Hid (q = p ++ putAll ((nums f.p).take k)) ∧ Bz w2.heap.size wL wq) (fun _ iv _ => 7 - (intOf iv).toNat)
       case atStart => exact ⟨_,0,p,rfl,rfl,by omega,oL,hide (by unfold putAll;simp),Bz.refl _ _⟩
       case round =>
        obtain ⟨bv,k,q,rfl,rfl,hk,ob,hq,hz⟩:=hrel
        have hBq:w2.heap.size ≤ wr.heap.size:=Nat.le_trans hBL hz.size
        have LR:=HL.out.bz hz (by decide)
        by_cases hk7:k < 7
        ·have hkn:k < (nums f.p).length:=hk7
         have hcell:=LR.bx.cell k (.int .u64 ((nums f.p).getD k 0:Int)) (by rw [List.getElem?_map,List.getElem?_eq_getElem hkn,getD_at _ _ hkn];rfl)
         have hn64:=HNL.out ((nums f.p).getD k 0) (by rw [getD_at _ _ hkn];exact List.getElem_mem hkn)
         have hnx:(nums f.p).take (k + 1) = (nums f.p).take k ++ [(nums f.p).getD k 0]:=by rw [List.take_add_one,List.getElem?_eq_getElem hkn,getD_at _ _ hkn];rfl
         have hlq:q.length ≤ p.length + 70:=by
          have e:(putAll ((nums f.p).take k)).length ≤ ((nums f.p).take k).length * 10:=putAll_le fun n hn => HNL.out n (List.mem_of_mem_take hn)
          have e2:((nums f.p).take k).length ≤ 7:=by rw [List.length_take];omega
          rw [hq.out,List.length_append]
          omega
         generalize (nums f.p).getD k 0 = n at *
         have HNX:=hide hnx
         have hpn:=put_le10' n hn64
         clear hnx
         go_wp2_with fail
         refine (varPut (n:Int) wr (by omega) (by omega)).mono ?_
         rintro e w6 ⟨v6,rfl,hown6,hb6⟩
         rw [Int.toNat_natCast] at hown6
         obtain ⟨A6,c6,rfl⟩:=own_slice hown6
         have o6:=ob.keep hb6
         have hr6:=rd_own hown6
         have hB6:w2.heap.size ≤ w6.heap.size:=Nat.le_trans hBq hb6.size
         clear hcell ob hown6 LR
         go_wp2_with (at_builtin;refine wpList_buf rfl (.tmp 73) (.tmp 75) rfl rfl o6 A6 _ c6 _ rfl hr6 (by omega) hB6 ?_;intro v7 w7 o7 hz7;have Z7:=hz.trans ((Bz.of hb6).trans hz7);clear o6 hr6 hb6 hz7)
         go_roundw
         case rel => exact ⟨_,k + 1,q ++ Var.put n,rfl,by go_num,hk7,o7,hide (by rw [hq.out,HNX.out];unfold putAll;rw [List.flatMap_append,List.append_assoc];simp),Z7⟩
         case measure => simp [intOf];omega
        ·have HQ:Hid (q = p ++ putAll (nums f.p)):=hide (by rw [hq.out,List.take_of_length_le (show (nums f.p).length ≤ k by have:(nums f.p).length = 7:=rfl;omega)])
         have hlq:q.length ≤ p.length + 70:=by
          have e:(putAll (nums f.p)).length ≤ (nums f.p).length * 10:=putAll_le HNL.out
          have e2:(nums f.p).length = 7:=rfl
          rw [HQ.out,List.length_append]
          omega
         have YR:=HY.out.bz hz (by decide)
         have u6:=YR.bx.cell 6 _ rfl
         have zR:=zL.trans hz
         have hinR:=(hin.below (hb3.trans (zR.below hB3))).more hBq
         clear hq
         go_wp2_with fail
         generalize f.A = fA at *
         go_loopw [4,81] (fun bv0 iv wq => ∃ (bv:Value) (k:Nat) (r:List UInt8),bv0 = bv ∧ iv = .int .i64 (k:Int) ∧ k ≤ f.p.ms.length ∧ Buf w2.heap.size r bv wq ∧ Hid (r = q ++ txs (f.p.ms.take k)) ∧ Bz w2.heap.size wr wq) (fun _ iv _ => f.p.ms.length - (intOf iv).toNat)
         case atStart => exact ⟨_,0,q,rfl,rfl,Nat.zero_le _,ob,hide (by unfold txs;simp),Bz.refl _ _⟩
         case round =>
          clear u6 hk7 hk ob
          obtain ⟨bv,k,r,rfl,rfl,hk,ob,hr,hz4⟩:=hrel
          have hB4:w2.heap.size ≤ wr.heap.size:=Nat.le_trans hBq hz4.size
          have hlr:r.length ≤ q.length + 272:=by
           have e:(txs (f.p.ms.take k)).length ≤ (f.p.ms.take k).length * 34:=flat_le fun s hs => tx_le (HNM.out.2 s (List.mem_of_mem_take hs))
           have e2:(f.p.ms.take k).length ≤ 8:=by rw [List.length_take];omega
           rw [hr.out,List.length_append]
           omega
          by_cases hk4:k < f.p.ms.length
          ·obtain ⟨b1,o1,rfl,hd1,p0⟩:=((hin.below (hb3.trans ((zR.trans hz4).below hB3))).more hB4).st hk4
           have hx24:=HNM.out.2 (f.p.ms.getD k default) (getD_mem hk4)
           have hnx:=flat_next (f:=tx) hk4
           generalize f.p.ms.getD k default = x at *
           have HNX:=hide hnx
           clear hnx
           go_wp2_with fail
           refine (metaText wr w2.heap.size r _ x ob hB4 (by omega)).mono ?_
           rintro e w6 ⟨v6,rfl,o6,z6⟩
           have Z6:=hz4.trans z6
           clear ob p0
           go_wp2_with fail
           go_roundw
           case rel => exact ⟨_,k + 1,r ++ tx x,rfl,by go_num,hk4,o6,hide (by rw [hr.out];unfold txs;rw [HNX.out,List.append_assoc]),Z6⟩
           case measure => simp [intOf];omega
          ·have HR4:Hid (r = wr1 (ss.map plS) (ns.map plN) ++ snBs ((ns.map plN).take (m + 1))):=hide (by
            rw [hr.out,List.take_of_length_le (show f.p.ms.length ≤ k by omega),HQ.out,hqm.out]
            unfold snBs
            rw [HNX.out]
            unfold snB
            simp only [List.append_assoc]
            rfl)
           have Z4:=zR.trans hz4
           go_wp2_with fail
           go_roundw
           case rel => exact ⟨_,m + 1,r,rfl,by go_num,hltm,ob,HR4,Z4⟩
           case measure => simp [intOf];omega
      ·have HP:Hid (p = wrT (ss.map plS) (ns.map plN)):=hide (by rw [hqm.out,List.take_of_length_le (by rw [List.length_map];omega)];rfl)
       obtain ⟨bA,bc,rfl⟩:=own_slice ob
       have hBw:Below w.heap.size w wr:=hB2.trans ((hb3.trans (hz.below hB3)).mono hB2.size)
       have hrb:=rd_own ob
       clear hqm hTr XR
       go_wp2_with fail
       refine (crcSeal wr p.length bc bA p hrb (HT.out.below hBw hpos) (by omega)).mono ?_
       rintro e w9 ⟨v9,rfl,hown9,hb9⟩
       go_wp2_with fail
       go_ret2
       refine .inl ⟨HR.out,v9,rfl,?_,below_call hBw hBw.size hb9⟩
       unfold wrS
       rw [← HP.out]
       exact own_base hown9 hBw.size

section
open Go.RowKit

theorem uLeft_len (l:List UInt8):(uLeft l).length ≤ l.length:=by
 unfold uLeft
 split
 ·unfold rdS
  simp only []
  exact Nat.le_trans (rdFs_left _ _ _ _) (Nat.le_trans (num_left _ _ _) (num_left _ _ _))
 ·simp
theorem magic_ne {t:List UInt8} (h:t.take 3 ≠ tf1):((⟨(t.take 3).toArray⟩:ByteArray).toList == [84,70,49]) = false:=by
 rw [ByteArray.toList_eq,beq_eq_false_iff_ne]
 intro q
 exact h (by simpa [tf1] using q)
theorem OwnT.oth {w w':World} {B b sc nc:Nat} {sA nA:Option Addr} {ss:List Sl} {ns:List Nl} (h:OwnT w B sA sc ss nA nc ns) (ho:Oth b w w') (hb:b < B):OwnT w' B sA sc ss nA nc ns :=
 ⟨own_oth h.sown ho hb,fun s hs => own_oth (h.sin s hs) ho hb,own_oth h.nown ho hb,fun s hs => own_oth (h.nin s hs) ho hb⟩
/-- within Open -/
structure GO (w0:World) (B0 br bt:Nat) (P:Nat → Prop) (B2:Nat) (A:Option Addr) (c:Nat) (l:List UInt8) (e:Bool) (sA:Option Addr) (sc:Nat) (ss:List Sl) (nA:Option Addr) (nc:Nat) (ns:List Nl) (cur:Nat) (wr:World):Prop where
 rd:RdrB wr br P A c l e
 tx:BoxN wr bt [.slice sA ss.length sc,.slice nA ns.length nc,.int .u64 (cur:Int)]
 hS:OwnT wr (bt + 1) sA sc ss none 0 []
 hN:OwnT wr B2 none 0 [] nA nc ns
 rb:BoxN wr B0 [.slice none 0 0,.slice none 0 0,.int .u64 0]
 bel:Below w0.heap.size w0 wr
 o1:B0 < br
 o2:br < bt
 o3:w0.heap.size ≤ B0
 o4:bt < B2
 o5:B2 ≤ wr.heap.size
section
variable {w0 wr w2 w4 w7 w8:World} {B0 br bt B2 c sc nc cur:Nat} {P:Nat → Prop} {e:Bool} {A sA nA:Option Addr} {l:List UInt8} {ss:List Sl} {ns:List Nl}
theorem GO.go (h:GO w0 B0 br bt P B2 A c l e sA sc ss nA nc ns cur wr) {A2:Option Addr} {c2:Nat} {l2:List UInt8} {e2:Bool} (hr:RdrB w7 br P A2 c2 l2 e2) (ho:Oth br wr w7):GO w0 B0 br bt P B2 A2 c2 l2 e2 sA sc ss nA nc ns cur w7:=by
 have h1:=h.o1
 have h2:=h.o2
 have h3:=h.o3
 have h4:=h.o4
 exact ⟨hr,h.tx.oth ho (by omega),h.hS.oth ho (by omega),h.hN.oth ho (by omega),h.rb.oth ho (by omega),h.bel.trans ((ho.below (Nat.le_of_lt h.rd.z)).mono (by omega)),h1,h2,h3,h4,Nat.le_trans h.o5 ho.size⟩
theorem GO.call (h:GO w0 B0 br bt P B2 A c l e sA sc ss nA nc ns cur wr) (hb:Below wr.heap.size wr w7):GO w0 B0 br bt P B2 A c l e sA sc ss nA nc ns cur w7:=h.go (h.rd.keep hb) (.of hb)
theorem GO.why (h:GO w0 B0 br bt P B2 A c l e sA sc ss nA nc ns cur wr) (e2:Bool):GO w0 B0 br bt P B2 A c l e2 sA sc ss nA nc ns cur (wr.setCell ⟨br,1,none⟩ (.bool e2)):=h.go (h.rd.set1 e2) ((Oth.refl br wr).set 1 _)
/-- a schema more -/
theorem GO.addS (h:GO w0 B0 br bt P B2 A c l e sA sc ss nA nc ns cur wr) {id:UInt32} {fs:List Fd} {F A2:Option Addr} {fc c2:Nat} {l2:List UInt8} {v:Value} (hb:Below wr.heap.size wr w4)
 (hF:w4.ownsRow wr.heap.size 89 4 (.slice F fs.length fc) fs.length (fdsV fs)) (hL:w4.ownsRow wr.heap.size 5 1 (.slice A2 l2.length c2) l2.length (bytesV l2))
 (hown:w8.ownsRow (bt + 1) 33 2 v (ss.length + 1) (slsV ss ++ slV ⟨id,fs,F,fc⟩)) (hg:w4.grownBy w8 (Value.slice sA ss.length sc).ownBlock) (hP:∀ k,wr.heap.size ≤ k → P k) :
 ∃ g cap,v = .slice (some ⟨g,0,none⟩) (ss.length + 1) cap ∧ w8.cell? ⟨bt,0,none⟩ = some (.slice sA ss.length sc) ∧ w8.frozen? ⟨bt,0,none⟩ = false ∧ w8.cell? ⟨br,0,none⟩ = some (.slice A l.length c) ∧ w8.frozen? ⟨br,0,none⟩ = false ∧
  GO w0 B0 br bt P B2 A2 c2 l2 e (some ⟨g,0,none⟩) cap (ss ++ [⟨id,fs,F,fc⟩]) nA nc ns cur ((w8.setCell ⟨bt,0,none⟩ (.slice (some ⟨g,0,none⟩) (ss.length + 1) cap)).setCell ⟨br,0,none⟩ (.slice A2 l2.length c2)):=by
 have h1:=h.o1
 have h2:=h.o2
 have h3:=h.o3
 have h4:=h.o4
 have h5:=h.o5
 have hz:=h.rd.z
 have hzt:=h.tx.z
 have H4:=h.call hb
 obtain ⟨g,cap,rfl,S8⟩:=H4.hS.snocS (s:=⟨id,fs,F,fc⟩) (own_base hF (by omega)) hown hg
 have N8:OwnT w8 B2 none 0 [] nA nc ns:=⟨World.ownsRow_nil _ _ _ _,by simp,own_grown H4.hN.nown H4.hS.sown hg (by decide),fun x hx => own_grown (H4.hN.nin x hx) H4.hS.sown hg (by decide)⟩
 have L8:=own_grown hL H4.hS.sown hg (by decide)
 have hb8:Below (bt + 1) w4 w8:=below_app (Below.refl _ _) (Nat.le_refl _) H4.hS.sown hg H4.tx.z
 have T8:=H4.tx.keep hb8 (Nat.lt_succ_self _)
 have R8:=H4.rb.keep hb8 (by omega)
 have hbr:br < bt + 1:=by omega
 have c0:=(hb8.cell (p:=⟨br,0,none⟩) hbr).trans H4.rd.c0
 have c1:=(hb8.cell (p:=⟨br,1,none⟩) hbr).trans H4.rd.c1
 have f0:=(hb8.frozen (p:=⟨br,0,none⟩) hbr).trans H4.rd.f0
 have f1:=(hb8.frozen (p:=⟨br,1,none⟩) hbr).trans H4.rd.f1
 have hne:br ≠ bt:=by omega
 have hne':bt ≠ br:=by omega
 have hsz:=hb.size
 have hsz8:=hb8.size
 have e1:(ss ++ [(⟨id,fs,F,fc⟩:Sl)]).length = ss.length + 1:=by simp
 have LL:=ownsRow_setCell_below (ownsRow_setCell_below L8 (a:=⟨bt,0,none⟩) (show bt < wr.heap.size by omega) (.slice (some ⟨g,0,none⟩) (ss.length + 1) cap)) (a:=⟨br,0,none⟩) (show br < wr.heap.size by omega) (.slice A2 l2.length c2)
 refine ⟨g,cap,rfl,T8.cell 0 _ rfl,T8.free 0 (by simp),c0,f0,?_,?_,?_,?_,?_,?_,h1,h2,h3,h4,?_⟩
 ·exact ⟨by go_simp,by go_simp,by go_simp,by go_simp,by simp;omega,.own LL hP,h.rd.nP⟩
 ·rw [e1]
  exact (T8.set (j:=0) _ rfl).else (p:=⟨br,0,none⟩) hne _
 ·exact (S8.set (p:=⟨bt,0,none⟩) (Nat.lt_succ_self _) _).set (p:=⟨br,0,none⟩) hbr _
 ·exact (N8.set (p:=⟨bt,0,none⟩) h4 _).set (p:=⟨br,0,none⟩) (show br < B2 by omega) _
 ·exact (R8.else (p:=⟨bt,0,none⟩) (show bt ≠ B0 by omega) _).else (p:=⟨br,0,none⟩) (show br ≠ B0 by omega) _
 ·exact ((H4.bel.trans (hb8.mono (by omega))).setCell (p:=⟨bt,0,none⟩) (show w0.heap.size ≤ bt by omega) _).setCell (p:=⟨br,0,none⟩) (show w0.heap.size ≤ br by omega) _
 ·simp;omega
/-- a snapshot more -/
theorem GO.addN (h:GO w0 B0 br bt P B2 A c l e sA sc ss nA nc ns cur w4) {p:Sn} {F:Option Addr} {fc b3 g cap:Nat} {cs3:List Value} (hF:w4.ownsRow B2 9 1 (.slice F p.ms.length fc) p.ms.length (strsV p.ms)) (h3x:BoxN w4 b3 cs3) (hne3:∀ k,(Value.slice nA ns.length nc).ownBlock = some k → k ≠ b3)
 (hPB:∀ k,P k → k < B2) (hPt:¬ P bt) (hown:w8.ownsRow B2 43 7 (.slice (some ⟨g,0,none⟩) (ns.length + 1) cap) (ns.length + 1) (nlsV ns ++ nlV ⟨p,F,fc⟩)) (hg:w4.grownBy w8 (Value.slice nA ns.length nc).ownBlock) :
 BoxN w8 b3 cs3 ∧ w8.cell? ⟨bt,1,none⟩ = some (.slice nA ns.length nc) ∧ w8.frozen? ⟨bt,1,none⟩ = false ∧ w8.cell? ⟨bt,2,none⟩ = some (.int .u64 (cur:Int)) ∧ w8.frozen? ⟨bt,2,none⟩ = false ∧
  GO w0 B0 br bt P B2 A c l e sA sc ss (some ⟨g,0,none⟩) cap (ns ++ [⟨p,F,fc⟩]) p.id.toNat ((w8.setCell ⟨bt,1,none⟩ (.slice (some ⟨g,0,none⟩) (ns.length + 1) cap)).setCell ⟨bt,2,none⟩ (.int .u64 (p.id.toNat:Int))):=by
 have h1:=h.o1
 have h2:=h.o2
 have h3:=h.o3
 have h4:=h.o4
 have h5:=h.o5
 obtain ⟨g',cap',q,N8⟩:=h.hN.snocN (s:=⟨p,F,fc⟩) hF hown hg
 injection q with q1 q2 q3
 injection q1 with q1
 injection q1 with q1
 subst q1 q3
 have S8:OwnT w8 (bt + 1) sA sc ss none 0 []:=⟨own_grown h.hS.sown h.hN.nown hg (by decide),fun x hx => own_grown (h.hS.sin x hx) h.hN.nown hg (by decide),World.ownsRow_nil _ _ _ _,by simp⟩
 have hb8:Below B2 w4 w8:=below_app (Below.refl _ _) (Nat.le_refl _) h.hN.nown hg h5
 have T8:=h.tx.keep hb8 h4
 have R8:=h.rb.keep hb8 (by omega)
 have K8:=h.rd.keepB hb8 (by omega) fun k hk _ => hPB k hk
 have hbk:w8.heap[b3]? = w4.heap[b3]?:=hg.block b3 h3x.z fun q => hne3 b3 q.symm rfl
 have e1:(ns ++ [(⟨p,F,fc⟩:Nl)]).length = ns.length + 1:=by simp
 have hne:br ≠ bt:=by omega
 refine ⟨⟨fun j u hj => (World.cell?_of_block (w:=w4) (a:=⟨b3,j,none⟩) hbk).trans (h3x.cell j u hj),fun j hj => (World.frozen?_of_block (w:=w4) (a:=⟨b3,j,none⟩) hbk).trans (h3x.free j hj),Nat.lt_of_lt_of_le h3x.z hg.size⟩,T8.cell 1 _ rfl,T8.free 1 (by simp),T8.cell 2 _ rfl,T8.free 2 (by simp),?_,?_,?_,?_,?_,?_,h1,h2,h3,h4,?_⟩
 ·exact (K8.elsewhere (p:=⟨bt,1,none⟩) hne hPt _).elsewhere (p:=⟨bt,2,none⟩) hne hPt _
 ·rw [e1]
  exact (T8.set (j:=1) _ rfl).set (j:=2) _ rfl
 ·exact (S8.set (p:=⟨bt,1,none⟩) (Nat.lt_succ_self _) _).set (p:=⟨bt,2,none⟩) (Nat.lt_succ_self _) _
 ·exact (N8.set (p:=⟨bt,1,none⟩) h4 _).set (p:=⟨bt,2,none⟩) h4 _
 ·exact (R8.else (p:=⟨bt,1,none⟩) (show bt ≠ B0 by omega) _).else (p:=⟨bt,2,none⟩) (show bt ≠ B0 by omega) _
 ·exact ((h.bel.trans (hb8.mono (by omega))).setCell (p:=⟨bt,1,none⟩) (show w0.heap.size ≤ bt by omega) _).setCell (p:=⟨bt,2,none⟩) (show w0.heap.size ≤ bt by omega) _
 ·have:=hb8.size
  simp
  omega
theorem GO.all (h:GO w0 B0 br bt P B2 A c l e sA sc ss nA nc ns cur wr):OwnT wr (bt + 1) sA sc ss nA nc ns:=⟨h.hS.sown,h.hS.sin,own_base h.hN.nown h.o4,fun x hx => own_base (h.hN.nin x hx) h.o4⟩
end
def GOR1 (w0:World) (B0 br bt:Nat) (P:Nat → Prop) (R:List Ps × List UInt8 × Bool) (nv:Value) (wr:World):Prop :=
 ∃ (m:Nat) (A:Option Addr) (c:Nat) (l:List UInt8) (e:Bool) (sA:Option Addr) (sc:Nat) (ss:List Sl),nv = .int .u64 (m:Int) ∧ m < 18446744073709551616 ∧ (e = false → ss.length ≤ 16) ∧ l.length ≤ 1000000 ∧ Hid (oS m l e (ss.map plS) = R) ∧ GO w0 B0 br bt P (bt + 1) A c l e sA sc ss none 0 [] 0 wr
def GOR2 (w0:World) (B0 br bt:Nat) (P:Nat → Prop) (B2:Nat) (sA:Option Addr) (sc:Nat) (ss:List Sl) (R:List Sn × List UInt8 × Bool) (nv:Value) (wr:World):Prop :=
 ∃ (m:Nat) (A:Option Addr) (c:Nat) (l:List UInt8) (e:Bool) (nA:Option Addr) (nc:Nat) (ns:List Nl),nv = .int .u64 (m:Int) ∧ m < 18446744073709551616 ∧ (e = false → ns.length ≤ 32) ∧ Hid (oN m l e (ns.map plN) = R) ∧ GO w0 B0 br bt P B2 A c l e sA sc ss nA nc ns (curOf (ns.map plN)) wr
/-! ### the ends -/
section
variable {l:List UInt8} {ss:List Ps} {ns:List Sn} {bad:Bool}
theorem oErr_sum (h1:(open_ l).isSome = false):oErr l = 101:=by unfold oErr;rw [if_pos h1]
theorem oErr_magic (h1:(open_ l).isSome = true) (h2:(bodyOf l).length < 3 ∨ (bodyOf l).take 3 ≠ tf1):oErr l = 100:=by unfold oErr;rw [if_neg (by rw [h1];simp),if_pos h2]
theorem oErr_foot (h1:(open_ l).isSome = true) (h2:¬ ((bodyOf l).length < 3 ∨ (bodyOf l).take 3 ≠ tf1)) (ho:opn ((bodyOf l).drop 3) = (ss,ns,bad)) (hx:bad = true ∨ rightP ss ns (curOf ns) = false ∨ wrS ss ns ≠ l):oErr l = 102:=by
 unfold oErr
 rw [if_neg (by rw [h1];simp),if_neg h2,ho,if_pos hx]
theorem oErr_ok (h1:(open_ l).isSome = true) (h2:¬ ((bodyOf l).length < 3 ∨ (bodyOf l).take 3 ≠ tf1)) (ho:opn ((bodyOf l).drop 3) = (ss,ns,bad)) (hx:¬ (bad = true ∨ rightP ss ns (curOf ns) = false ∨ wrS ss ns ≠ l)):oErr l = 0:=by
 unfold oErr
 rw [if_neg (by rw [h1];simp),if_neg h2,ho,if_neg hx]
end
theorem opEnd_ok {w w':World} {l:List UInt8} {bad:Bool} {sA nA:Option Addr} {sc nc:Nat} {ss:List Sl} {ns:List Nl} (h:oErr l = 0) (ho:opn ((bodyOf l).drop 3) = (ss.map plS,ns.map plN,bad)) (hO:OwnT w' w.heap.size sA sc ss nA nc ns) (hb:Below w.heap.size w w') :
 OpEnd w l (.returned (.tuple #[.agg #[.slice sA ss.length sc,.slice nA ns.length nc,.int .u64 ((curOf (ns.map plN):Nat):Int)],.int .i64 0])) w':=by
 unfold OpEnd
 rw [if_pos h,ho]
 exact ⟨sA,sc,ss,nA,nc,ns,rfl,hO,rfl,rfl,hb⟩
set_option maxHeartbeats 8000000 in
theorem metaOpen (w:World) (A:Option Addr) (c:Nat) (l:List UInt8) (hr:Rd w w.heap.size 1 A l.length c (bytesV l)) (ht:Table w) (hl:l.length ≤ 1000000) :
 Calls Tryz.prog 48 #[.slice A l.length c] w (OpEnd w l):=by
 have HT:=hide ht
 have hpos:=ht.pos
 clear ht
 go_enter Tryz.func48,Tryz.ntmps48
 go_wp2_with fail
 have x0:=boxN_new w #[.slice none 0 0,.slice none 0 0,.int .u64 0] 39
 have hb0:=(Below.refl w.heap.size w).alloc (Nat.le_refl _) (.cells #[.slice none 0 0,.slice none 0 0,.int .u64 0] 39)
 have hr0:=(hr.below hb0).more hb0.size
 have hT0:=HT.out.below hb0 hpos
 generalize w.alloc (.cells #[.slice none 0 0,.slice none 0 0,.int .u64 0] 39) = w0 at *
 obtain ⟨B0,hB0⟩:∃ B0,B0 = w.heap.size:=⟨_,rfl⟩
 rw [← hB0] at x0 ⊢
 have zw:w.heap.size ≤ B0:=Nat.le_of_eq hB0.symm
 refine (crcOpen w0 _ c A l hr0 hT0 hl).mono ?_
 intro e w1 he
 obtain ⟨hb1,A1,c1,rfl,hr1⟩:=retOpen_one he
 have hB1:Below w.heap.size w w1:=below_call hb0 hb0.size hb1
 have X1:=x0.keep hb1 x0.z
 obtain ⟨body,hbody⟩:∃ b,(open_ l).getD [] = b:=⟨_,rfl⟩
 obtain ⟨ok,hok⟩:∃ b,(open_ l).isSome = b:=⟨_,rfl⟩
 rw [hbody] at hr1 ⊢
 rw [hok]
 have HB:Hid (bodyOf l = body ∧ (open_ l).isSome = ok):=hide ⟨hbody,hok⟩
 have HX:=hide (And.intro X1 (And.intro hB1 (And.intro hr1 zw)))
 have hbl:Hid (body.length ≤ 1000000):=hide (by
  rw [← hbody]
  unfold open_
  split
  ·simp only [Option.getD_some,List.length_take];omega
  ·simp)
 have hb62:body.length ≤ 9223372036854775807:=by have:=hbl.out;omega
 have k0:=X1.cell 0 _ rfl
 have f0:=X1.free 0 (by simp)
 have k1:=X1.cell 1 _ rfl
 have f1:=X1.free 1 (by simp)
 have k2:=X1.cell 2 _ rfl
 have f2:=X1.free 2 (by simp)
 clear hbody hok he hb0 hb1 hB0 hr0 hT0 x0 X1 hB1
 cases ok with
 | false =>
   clear hr1
   go_wp2_with fail
   (try simp only [Exit.inBlock,Exit.then])
   refine bodyPost_ret (ret_tb2 (b:=B0) rfl _ _ rfl HX.out.1.set3b) rfl ?_
   exact opEnd_bad (er:=101) (oErr_sum HB.out.2) (by decide) (below_set3b HX.out.2.1 HX.out.2.2.2)
 | true =>
   by_cases h3:body.length < 3
   ·have t1:decide ((body.length:Int) < 3) = true:=decide_eq_true (by omega)
    have HE:=hide (oErr_magic HB.out.2 (.inl (by rw [HB.out.1];exact h3)))
    clear hr1
    go_wp2_with fail
    (try simp only [Exit.inBlock,Exit.then])
    refine bodyPost_ret (ret_tb2 (b:=B0) rfl _ _ rfl HX.out.1.set3b) rfl ?_
    exact opEnd_bad (er:=100) HE.out (by decide) (below_set3b HX.out.2.1 HX.out.2.2.2)
   have t1:decide ((body.length:Int) < 3) = false:=decide_eq_false (by omega)
   have hcap:=hr1.le
   have u1:=fun k W => run_cut_hi (P:=Tryz.prog) tyBytes A1 body.length c1 k (3:Int) 3 rfl (by omega) W
   have u2:=fun k W => cut_hi (P:=Tryz.prog) tyBytes A1 body.length c1 k (3:Int) 3 rfl (by omega) W
   have hpre:Rd w1 w1.heap.size 1 A1 3 c1 (bytesV (body.take 3)):=by
    have:=hr1.pre (hi:=3) (by omega)
    simpa [bytesV,List.map_take] using this
   have hstr:=run_str (P:=Tryz.prog) w1 Tryz.underlying55 Tryz.underlying5 Tryz.underlying9 hpre
   have H3:=hide h3
   clear hpre
   by_cases hq:body.take 3 ≠ tf1
   ·have HE:=hide (oErr_magic HB.out.2 (.inr (by rw [HB.out.1];exact hq)))
    have hne:=magic_ne hq
    generalize (⟨(body.take 3).toArray⟩:ByteArray) = pre at *
    clear hr1 hq h3 hcap
    go_wp2_with fail
    (try simp only [Exit.inBlock,Exit.then])
    refine bodyPost_ret (ret_tb2 (b:=B0) rfl _ _ rfl HX.out.1.set3b) rfl ?_
    exact opEnd_bad (er:=100) HE.out (by decide) (below_set3b HX.out.2.1 HX.out.2.2.2)
   have hq:body.take 3 = tf1:=Decidable.of_not_not hq
   have HM:Hid (¬ ((bodyOf l).length < 3 ∨ (bodyOf l).take 3 ≠ tf1)):=hide (by rw [HB.out.1];rintro (q | q);exact H3.out q;exact q hq)
   have hpe:(⟨(body.take 3).toArray⟩:ByteArray) = ⟨#[84,70,49]⟩:=by rw [hq];rfl
   rw [hpe] at hstr
   obtain ⟨A2,l2,hl2,s1,s2,hr2⟩:=rd_lo hr1 (lo:=3) (by omega)
   have s1:∀ k W,(Instr.sliceAt 55 (.slice A1 body.length c1) (some (.int k (3:Int))) none none).run Tryz.prog W = .ok (.slice A2 l2.length (c1 - 3)) W:=s1
   have s2:∀ k W,(Instr.slice 55 (.slice A1 body.length c1) (some (.int k (3:Int))) none none).run Tryz.prog W = .ok (.slice A2 l2.length (c1 - 3)) W:=s2
   have HL2:Hid (l2 = (bodyOf l).drop 3):=hide (by rw [hl2,HB.out.1])
   have hl2m:Hid (l2.length ≤ 1000000):=hide (by rw [hl2];have:=hbl.out;simp;omega)
   clear hr1 hq hpe h3 hcap hl2 hb62
   go_wp2_with fail
   have R2:=rdrB_new w1 (P:=fun k => k ≠ w1.heap.size ∧ k ≠ w1.heap.size + 1) hr2 192 (fun k hk => ⟨by omega,by omega⟩) (fun q => q.1 rfl)
   have hb2:=(Below.refl w1.heap.size w1).alloc (Nat.le_refl _) (.cells #[.slice A2 l2.length (c1 - 3),.bool false] 192)
   have hz2:(w1.alloc (.cells #[.slice A2 l2.length (c1 - 3),.bool false] 192)).heap.size = w1.heap.size + 1:=by simp
   have X2:=HX.out.1.keep hb2 HX.out.1.z
   have hB2:=below_call HX.out.2.1 HX.out.2.1.size hb2
   rw [← hz2] at R2
   generalize w1.alloc (.cells #[.slice A2 l2.length (c1 - 3),.bool false] 192) = w2 at *
   have T3:=boxN_new w2 #[.slice none 0 0,.slice none 0 0,.int .u64 0] 39
   have hb3:=(Below.refl w2.heap.size w2).alloc (Nat.le_refl _) (.cells #[.slice none 0 0,.slice none 0 0,.int .u64 0] 39)
   have R3:=R2.keep hb3
   have X3:=X2.keep hb3 X2.z
   have hB3:=below_call hB2 hB2.size hb3
   have zb:w1.heap.size < w2.heap.size:=by omega
   have z0:B0 < w1.heap.size:=HX.out.1.z
   rw [← hz2]
   generalize w2.alloc (.cells #[.slice none 0 0,.slice none 0 0,.int .u64 0] 39) = w3 at *
   generalize w2.heap.size = bt at *
   generalize w1.heap.size = br at *
   have G3:GO w B0 br bt (fun k => k ≠ br ∧ k ≠ bt) (bt + 1) A2 (c1 - 3) l2 false none 0 [] none 0 [] 0 w3:=⟨R3,T3,OwnT.nil _ _,OwnT.nil _ _,X3,hB3,z0,zb,HX.out.2.2.2,Nat.lt_succ_self _,T3.z⟩
   have HPW:Hid ((∀ k,bt < k → (fun k => k ≠ br ∧ k ≠ bt) k) ∧ (∀ k,(fun k => k ≠ br ∧ k ≠ bt) k → k ≠ bt) ∧ ¬ (fun k => k ≠ br ∧ k ≠ bt) br):=hide ⟨fun k hk => ⟨by omega,by omega⟩,fun k hk => hk.2,fun q => q.1 rfl⟩
   clear R2 R3 T3 X2 X3 hb2 hb3 hz2 hr2 hB2 hB3 k0 k1 k2 f0 f1 f2 u1 u2 s1 s2 hstr
   generalize (fun k => k ≠ br ∧ k ≠ bt) = P1 at *
   refine (metaNum w3 br P1 A2 (c1 - 3) l2 false G3.rd).mono ?_
   rintro e w4 ⟨rfl,⟨A4,c4,h4⟩,ho4⟩
   have hlt:=mnum_lt l2 false
   have hle:=mnum_len l2 false
   obtain ⟨N,l4,b4,hn⟩:∃ n l' b',mnum l2 false = (n,l',b'):=⟨_,_,_,rfl⟩
   rw [hn] at h4 hlt hle ⊢
   dsimp only at h4 hlt hle ⊢
   have HN1:=hide hn
   have G4:=G3.go h4 ho4
   have hl4:l4.length ≤ 1000000:=by have:=hl2m.out;omega
   obtain ⟨Q,hQ⟩:∃ Q,oS N l4 b4 [] = Q:=⟨_,rfl⟩
   have HQ:=hide hQ
   clear hn hQ h4 ho4 G3 hle
   go_wp2_with fail
   go_loopw [8] (GOR1 w B0 br bt P1 Q) (fun iv _ => (intOf iv).toNat)
   case atStart => exact ⟨N,A4,c4,l4,b4,none,0,[],rfl,hlt,fun _ => by simp,hl4,HQ,G4⟩
   case round =>
    clear G4 hlt hl4
    obtain ⟨m,A',c',l',e',sA,sc,ss,rfl,hm64,hlen,hl6,hrd,G⟩:=hrel
    have k1:=G.rd.c1
    have HG:=hide G
    obtain ⟨go,hgo⟩:∃ go,(decide (0 < m) && !e') = go:=⟨_,rfl⟩
    go_upto_region 9 with fail
    go_cut [48] from 40 to 80 (fun v wx => v = .bool go ∧ wx = wr)
    case first =>
     by_cases hm:m = 0
     ·have t2:¬ 0 < m:=by omega
      have t3:decide ((0:Int) < (m:Int)) = false:=decide_eq_false (by omega)
      obtain rfl:go = false:=by rw [← hgo,hm];rfl
      go_wp2_with fail
      go_meet
      exact ⟨rfl,rfl⟩
     ·have t2:0 < m:=by omega
      have t3:decide ((0:Int) < (m:Int)) = true:=decide_eq_true (by omega)
      obtain rfl:go = !e':=by rw [← hgo,decide_eq_true t2];rfl
      go_wp2_with fail
      go_meet
      exact ⟨rfl,rfl⟩
    case rest =>
    obtain ⟨rfl,rfl⟩:=hcut
    cases go with
    | true =>
      have hm0:0 < m:=by
       rcases Nat.eq_zero_or_pos m with q | q
       ·rw [q] at hgo;cases hgo
       ·exact q
      obtain rfl:e' = false:=by cases e' with | false => rfl | true => simp at hgo
      have h16:=hlen rfl
      have hq:=hrd.out
      rw [show m = (m - 1) + 1 by omega,oS_on] at hq
      have HQ2:=hide hq
      have HM:=hide hm0
      have c0:=G.rd.c0
      clear hq hrd hlen hgo hm0 k1
      go_wp2_with fail
      refine (schUnpackO wc _ c' A' l' G.rd.rd.rd hl6).mono ?_
      rintro e w5 ⟨F,fc,AL,cL,rfl,hF5,hL5,hb5⟩
      obtain ⟨fs,hfs⟩:∃ fs,uFs l' = fs:=⟨_,rfl⟩
      obtain ⟨id,hid⟩:∃ id,uId l' = id:=⟨_,rfl⟩
      obtain ⟨lf,hlf⟩:∃ lf,uLeft l' = lf:=⟨_,rfl⟩
      obtain ⟨er,her⟩:∃ er,(rdS l' 0).err = er:=⟨_,rfl⟩
      have hlfl:=uLeft_len l'
      rw [hlf] at hlfl
      have hlf6:lf.length ≤ 1000000:=by omega
      rw [hfs] at hF5
      rw [hlf] at hL5
      rw [hfs,hid,hlf,her]
      have HQ3:Hid (oS (m - 1) lf (decide (er ≠ 0) || decide (16 < ss.length + 1)) ((ss ++ [(⟨id,fs,F,fc⟩:Sl)]).map plS) = Q):=hide (by have:=HQ2.out;rw [hfs,hid,hlf,her] at this;simpa [plS] using this)
      have hPk:∀ k,wc.heap.size ≤ k → P1 k:=fun k hk => HPW.out.1 k (by have:=G.tx.z;omega)
      have G5:=G.call hb5
      have k0:=G5.tx.cell 0 _ rfl
      clear hfs hid hlf her HQ2 c0 hlfl
      go_upto_region 12 with fail
      have hb6:=(Below.refl w5.heap.size w5).alloc (Nat.le_refl _) (.cells #[.int .u32 (id.toNat:Int),.slice F fs.length fc] 33)
      have xb:=boxN_new w5 #[.int .u32 (id.toNat:Int),.slice F fs.length fc] 33
      have hb56:=below_call hb5 hb5.size hb6
      have hF6:=own_below hF5 hb6
      have hL6:=own_below hL5 hb6
      generalize w5.alloc (.cells #[.int .u32 (id.toNat:Int),.slice F fs.length fc] 33) = w6 at *
      generalize w5.heap.size = b9 at *
      have y0:=xb.cell 0 _ rfl
      have y1:=xb.cell 1 _ rfl
      have hlit:=Rd.lit w6 (n:=1) (sz:=2) 33 #[.int .u32 (id.toNat:Int),.slice F fs.length fc] rfl (by decide)
      have hb7:=(Below.refl w6.heap.size w6).alloc (Nat.le_refl _) (.cells #[.int .u32 (id.toNat:Int),.slice F fs.length fc] 33)
      have hb57:=below_call hb56 hb56.size hb7
      have hF7:=own_below hF6 hb7
      have hL7:=own_below hL6 hb7
      have G6:=G.call hb56
      have k0:=G6.tx.cell 0 _ rfl
      have S7:=(G.call hb57).hS.sown
      have HADD:=hide (fun (v:Value) (w8:World) hown hg => G.addS (w8:=w8) (id:=id) (fs:=fs) (F:=F) (fc:=fc) (v:=v) (e:=false) hb57 hF7 hL7 hown hg hPk)
      have HL7:=hide (And.intro hlit S7)
      have hz7:bt + 1 ≤ (w6.alloc (.cells #[.int .u32 (id.toNat:Int),.slice F fs.length fc] 33)).heap.size:=(G.call hb57).tx.z
      have hn16:ss.length ≤ 16:=h16
      clear hF5 hL5 hb5 hb6 xb hb56 hF6 hL6 hlit hb7 hb57 hF7 hL7 G5 G6 S7 hPk
      go_upto_region 13 with (at_builtin;(refine wpList_app _ tySchs rfl (.tmp 62) (.tmp 64) rfl (bt + 1) _ _ _ rfl HL7.out.2 (w6.heap.size + 1) _ 1 1 (slV ⟨id,fs,F,fc⟩) rfl HL7.out.1 (slV_one _) (by omega) hz7 ?_;intro v5 w8 hown8 hg8 _;obtain ⟨g,cap,rfl,d0,d1,d2,d3,G8⟩:=HADD.out v5 w8 hown8 hg8;have HG8:=hide G8;clear hown8 hg8 G8 k0 y0 y1 HADD HL7 hz7))
      generalize (w8.setCell ⟨bt,0,none⟩ (.slice (some ⟨g,0,none⟩) (ss.length + 1) cap)).setCell ⟨br,0,none⟩ (.slice AL lf.length cL) = w9 at *
      have k8:=HG8.out.rd.c1
      have j8:=HG8.out.rd.f1
      have r8:=HG8.out.tx.cell 0 _ rfl
      have e1:(ss ++ [(⟨id,fs,F,fc⟩:Sl)]).length = ss.length + 1:=by simp
      rw [e1] at r8
      obtain ⟨tc,htc⟩:∃ tc,tc = decide (16 < ss.length + 1):=⟨_,rfl⟩
      have t3:decide ((16:Int) < ((ss.length + 1:Nat):Int)) = tc:=by rw [htc,Bool.eq_iff_iff];simp only [decide_eq_true_eq];omega
      have t4:decide ((16:Int) < (ss.length:Int) + 1) = tc:=by rw [htc,Bool.eq_iff_iff];simp only [decide_eq_true_eq];omega
      have HTC:=hide htc
      have hw1:IntKind.u64.wrap ((m:Int) - 1) = (m:Int) - 1:=by have:=HM.out;rw [IntKind.wrap_u64];omega
      have hw2:((m:Int) - 1) % 18446744073709551616 = (m:Int) - 1:=by have:=HM.out;omega
      clear htc G HG
      by_cases hz:er = 0
      ·have HQ4:Hid (oS (m - 1) lf tc ((ss ++ [(⟨id,fs,F,fc⟩:Sl)]).map plS) = Q):=hide (by have:=HQ3.out;rw [hz, ← HTC.out] at this;simpa using this)
       have t5:((er:Int) != 0) = false:=by rw [bne_eq_false_iff_eq];omega
       have t6:((er:Int) == 0) = true:=by rw [beq_iff_eq];omega
       clear hz HQ3
       go_wp2_with fail
       go_roundw
       case rel => exact ⟨m - 1,AL,cL,lf,tc,_,cap,ss ++ [⟨id,fs,F,fc⟩],by have:=HM.out;congr 1;omega,by omega,(fun hh => by rw [HTC.out] at hh;simp at hh;simp;omega),hlf6,HQ4,HG8.out.why tc⟩
       case measure => have:=HM.out;simp [intOf];omega
      ·have HQ4:Hid (oS (m - 1) lf true ((ss ++ [(⟨id,fs,F,fc⟩:Sl)]).map plS) = Q):=hide (by have:=HQ3.out;rw [decide_eq_true (p:=er ≠ 0) hz] at this;simpa using this)
       have t5:((er:Int) != 0) = true:=by rw [bne_iff_ne];omega
       have t6:((er:Int) == 0) = false:=by rw [beq_eq_false_iff_ne];omega
       clear hz HQ3
       go_wp2_with fail
       go_roundw
       case rel => exact ⟨m - 1,AL,cL,lf,true,_,cap,ss ++ [⟨id,fs,F,fc⟩],by have:=HM.out;congr 1;omega,by omega,(fun hh => by cases hh),hlf6,HQ4,HG8.out.why true⟩
       case measure => have:=HM.out;simp [intOf];omega
    | false =>
      have hq:oS m l' e' (ss.map plS) = (ss.map plS,l',e'):=oS_end (by
       cases e' with
       | true => exact .inr rfl
       | false => exact .inl (Nat.eq_zero_of_not_pos fun q => by rw [decide_eq_true q] at hgo;cases hgo))
      rw [hrd.out] at hq
      have HQ2:=hide hq
      have t2:=hgo
      clear hq hrd hlen hm64 hl6 k1
      go_wp2_with fail
      refine (metaNum wc br P1 A' c' l' e' G.rd).mono ?_
      rintro e w6 ⟨rfl,⟨A6,c6,h6⟩,ho6⟩
      have hlt:=mnum_lt l' e'
      obtain ⟨N2,l6,b6,hn⟩:∃ n l b,mnum l' e' = (n,l,b):=⟨_,_,_,rfl⟩
      rw [hn] at h6 hlt ⊢
      dsimp only at h6 hlt ⊢
      have HN2:=hide hn
      have G6:=G.go h6 ho6
      obtain ⟨R,hR⟩:∃ R,oN N2 l6 b6 [] = R:=⟨_,rfl⟩
      have HR:=hide hR
      have HOP:Hid (opn ((bodyOf l).drop 3) = (ss.map plS,R.1,R.2.2)):=hide (by rw [← HL2.out];exact opn_of HN1.out (HQ.out.trans HQ2.out) hn (hR.trans rfl))
      obtain ⟨P2,hP2⟩:∃ P2:Nat → Prop,P2 = fun k => P1 k ∧ k < w6.heap.size:=⟨_,rfl⟩
      have G7:GO w B0 br bt P2 w6.heap.size A6 c6 l6 b6 sA sc ss none 0 [] 0 w6:=⟨h6.imp (fun k hk hl => by rw [hP2];exact ⟨hk,hl⟩) (fun q => by rw [hP2] at q;exact HPW.out.2.2 q.1),G6.tx,G6.hS,OwnT.nil _ _,G6.rb,G6.bel,G6.o1,G6.o2,G6.o3,G6.tx.z,Nat.le_refl _⟩
      have HP2:Hid ((∀ k,P2 k → k < w6.heap.size) ∧ ¬ P2 bt):=hide (by rw [hP2];exact ⟨fun k q => q.2,fun q => HPW.out.2.1 bt q.1 rfl⟩)
      generalize w6.heap.size = B2 at *
      clear hn hR G6 h6 ho6 hP2 HG G HQ2 hgo t2 HN1 HQ
      obtain ⟨ti,hti,hti1,hti2,hti3⟩:=info_parts tySnaps.inf
      go_wp2_with fail
      go_loopw [12] (GOR2 w B0 br bt P2 B2 sA sc ss R) (fun iv _ => (intOf iv).toNat)
      case atStart => exact ⟨N2,A6,c6,l6,b6,none,0,[],rfl,hlt,fun _ => by simp,HR,G7⟩
      case round =>
       clear G7 hlt
       obtain ⟨m,A',c',l',e',nA,nc,ns,rfl,hm64,hlen,hrd,G⟩:=hrel
       have k1:=G.rd.c1
       have HG:=hide G
       obtain ⟨go,hgo⟩:∃ go,(decide (0 < m) && !e') = go:=⟨_,rfl⟩
       go_upto_region 15 with fail
       go_cut [91] from 83 to 117 (fun v wx => v = .bool go ∧ wx = wr)
       case first =>
        by_cases hm:m = 0
        ·have t2:¬ 0 < m:=by omega
         have t3:decide ((0:Int) < (m:Int)) = false:=decide_eq_false (by omega)
         obtain rfl:go = false:=by rw [← hgo,hm];rfl
         go_wp2_with fail
         go_meet
         exact ⟨rfl,rfl⟩
        ·have t2:0 < m:=by omega
         have t3:decide ((0:Int) < (m:Int)) = true:=decide_eq_true (by omega)
         obtain rfl:go = !e':=by rw [← hgo,decide_eq_true t2];rfl
         go_wp2_with fail
         go_meet
         exact ⟨rfl,rfl⟩
       case rest =>
       obtain ⟨rfl,rfl⟩:=hcut
       cases go with
       | true =>
         have hm0:0 < m:=by
          rcases Nat.eq_zero_or_pos m with q | q
          ·rw [q] at hgo;cases hgo
          ·exact q
         obtain rfl:e' = false:=by cases e' with | false => rfl | true => simp at hgo
         have h32:=hlen rfl
         have hq:=hrd.out
         rw [show m = (m - 1) + 1 by omega,oN_on] at hq
         have HQ2:=hide hq
         have HM0:=hide hm0
         clear hq hrd hlen hgo hm0 k1
         go_wp2_with fail
         refine (metaSnapR wc br P2 A' c' l' false G.rd).mono ?_
         rintro e w5 ⟨F,fc,rfl,hF5,⟨A5,c5,h5⟩,ho5⟩
         obtain ⟨p,l5,e5,hs⟩:∃ p l e,msnap l' false = (p,l,e):=⟨_,_,_,rfl⟩
         rw [hs] at hF5 h5 ⊢
         dsimp only at hF5 h5 ⊢
         have HQ3:Hid (oN (m - 1) l5 (e5 || decide (32 < ns.length + 1)) ((ns ++ [(⟨p,F,fc⟩:Nl)]).map plN) = R):=hide (by have:=HQ2.out;rw [hs] at this;simpa [plN] using this)
         have G5:=G.go h5 ho5
         have hF5b:=own_base hF5 G.o5
         clear hs HQ2 hF5 h5 ho5
         go_upto_region 18 with fail
         have x7:BoxN _ _ ([.int .u64 (p.id.toNat:Int),.int .u64 (p.par.toNat:Int),.int .u64 (p.seq.toNat:Int),.int .u64 (p.off.toNat:Int),.int .u64 (p.tim.toNat:Int),.int .u32 (p.sch.toNat:Int),.slice F p.ms.length fc]:List Value):=boxN_new w5 #[.int .u64 (p.id.toNat:Int),.int .u64 (p.par.toNat:Int),.int .u64 (p.seq.toNat:Int),.int .u64 (p.off.toNat:Int),.int .u64 (p.tim.toNat:Int),.int .u32 (p.sch.toNat:Int),.slice F p.ms.length fc] 43
         have hb7:=(Below.refl w5.heap.size w5).alloc (Nat.le_refl _) (.cells #[.int .u64 (p.id.toNat:Int),.int .u64 (p.par.toNat:Int),.int .u64 (p.seq.toNat:Int),.int .u64 (p.off.toNat:Int),.int .u64 (p.tim.toNat:Int),.int .u32 (p.sch.toNat:Int),.slice F p.ms.length fc] 43)
         have hF7:=own_below hF5b hb7
         have G7:=G5.call hb7
         obtain ⟨b3,hb3⟩:∃ b,b = w5.heap.size:=⟨_,rfl⟩
         rw [← hb3] at x7 ⊢
         have nb3:b3 ≠ bt:=by have:=G5.tx.z;omega
         have hne3:∀ k,(Value.slice nA ns.length nc).ownBlock = some k → k ≠ b3:=fun k hk => by have:=(G5.hN.nown.lt k hk).2;omega
         generalize w5.alloc (.cells #[.int .u64 (p.id.toNat:Int),.int .u64 (p.par.toNat:Int),.int .u64 (p.seq.toNat:Int),.int .u64 (p.off.toNat:Int),.int .u64 (p.tim.toNat:Int),.int .u32 (p.sch.toNat:Int),.slice F p.ms.length fc] 43) = w7 at *
         clear hb3 G5 hb7 hF5b G HG
         have hbL:=((Below.refl w7.heap.size w7).drew).alloc (Nat.le_refl _) (.cells #[.int .u64 (p.id.toNat:Int),.int .u64 (p.par.toNat:Int),.int .u64 (p.seq.toNat:Int),.int .u64 (p.off.toNat:Int),.int .u64 (p.tim.toNat:Int),.int .u32 (p.sch.toNat:Int),.slice F p.ms.length fc] 43)
         have GL:=G7.call hbL
         have hk1:=x7.keep hbL x7.z
         have hlit:∀ j u,(nlV ⟨p,F,fc⟩)[j]? = some u → (w7.drew.alloc (.cells #[.int .u64 (p.id.toNat:Int),.int .u64 (p.par.toNat:Int),.int .u64 (p.seq.toNat:Int),.int .u64 (p.off.toNat:Int),.int .u64 (p.tim.toNat:Int),.int .u32 (p.sch.toNat:Int),.slice F p.ms.length fc] 43)).cell? ((⟨w7.heap.size,0,none⟩:Addr).add j) = some u:=fun j u hu => by
          have:=(boxN_new w7.drew #[.int .u64 (p.id.toNat:Int),.int .u64 (p.par.toNat:Int),.int .u64 (p.seq.toNat:Int),.int .u64 (p.off.toNat:Int),.int .u64 (p.tim.toNat:Int),.int .u32 (p.sch.toNat:Int),.slice F p.ms.length fc] 43).cell j u hu
          rw [Addr.add_lit,Nat.zero_add]
          exact this
         have hadd:=fun (g cap:Nat) (w8:World) hown hg => GL.addN (p:=p) (F:=F) (fc:=fc) (g:=g) (cap:=cap) (w8:=w8) (own_below hF7 hbL) hk1 hne3 HP2.out.1 HP2.out.2 hown hg
         have HL:=hide (And.intro hlit (And.intro GL.hN.nown hadd))
         have k1:=G7.tx.cell 1 _ rfl
         have k2:=G7.tx.cell 2 _ rfl
         have kl1:(w7.alloc (.cells #[.int .u64 (p.id.toNat:Int),.int .u64 (p.par.toNat:Int),.int .u64 (p.seq.toNat:Int),.int .u64 (p.off.toNat:Int),.int .u64 (p.tim.toNat:Int),.int .u32 (p.sch.toNat:Int),.slice F p.ms.length fc] 43)).cell? ⟨bt,1,none⟩ = some (.slice nA ns.length nc):=GL.tx.cell 1 _ rfl
         have kl2:(w7.alloc (.cells #[.int .u64 (p.id.toNat:Int),.int .u64 (p.par.toNat:Int),.int .u64 (p.seq.toNat:Int),.int .u64 (p.off.toNat:Int),.int .u64 (p.tim.toNat:Int),.int .u32 (p.sch.toNat:Int),.slice F p.ms.length fc] 43)).cell? ⟨bt,2,none⟩ = some (.int .u64 (curOf (ns.map plN):Int)):=GL.tx.cell 2 _ rfl
         have HG3:=hide (And.intro x7 hk1)
         have hk0:=x7.cell
         have hk1:=hk1.cell
         have h32i:(ns.length:Int) ≤ 32:=by omega
         have hzB:B2 ≤ w7.heap.size:=G7.o5
         clear hlit hadd x7 hbL GL G7 hF7
         go_cut [] from 83 to 117 (fun wx => ∃ g cap,GO w B0 br bt P2 B2 A5 c5 l5 e5 sA sc ss (some ⟨g,0,none⟩) cap (ns ++ [⟨p,F,fc⟩]) p.id.toNat wx)
         case first =>
          rename_i J K1 hJ hK1
          refine wp_region_held_drew (S:=fun w' => ∀ j u,([.int .u64 (p.id.toNat:Int),.int .u64 (p.par.toNat:Int),.int .u64 (p.seq.toNat:Int),.int .u64 (p.off.toNat:Int),.int .u64 (p.tim.toNat:Int),.int .u32 (p.sch.toNat:Int),.slice F p.ms.length fc]:List Value)[j]? = some u → w'.cell? ⟨b3,j,none⟩ = some u) (by kernel_rfl) ?_ (fun hHeld => ?_)
          ·exact HG3.out.1.cell
          refine wpAnyH_take (i:=0) (v:=?_) rfl (by kernel_rfl) (by kernel_rfl) (by kernel_rfl) (fun _ _ _ h => h) (Or.inl ⟨by rfl,?_⟩) hHeld ?_
          rotate_left 1
          ·(intro w hSw;go_simp;first | done | with_reducible rfl)
          (try simp only [Act.put,zA0])
          refine wpAnyH_take (i:=2) (v:=?_) rfl (by kernel_rfl) (by kernel_rfl) (by kernel_rfl) (fun _ _ _ h => h) (Or.inl ⟨by rfl,?_⟩) hHeld ?_
          rotate_left 1
          ·(intro w hSw;have q0:=hSw 0 _ rfl;have q1:=hSw 1 _ rfl;have q2:=hSw 2 _ rfl;have q3:=hSw 3 _ rfl;have q4:=hSw 4 _ rfl;have q5:=hSw 5 _ rfl;have q6:=hSw 6 _ rfl;go_simp;first | done | with_reducible rfl)
          (try simp only [Act.put])
          refine wpAnyH_take (i:=5) (v:=?_) rfl (by kernel_rfl) (by kernel_rfl) (by kernel_rfl) (fun _ _ _ h => h) (Or.inl ⟨by rfl,?_⟩) hHeld ?_
          rotate_left 1
          ·(intro w hSw;go_simp;first | done | with_reducible rfl)
          (try simp only [Act.put])
          refine wpAnyH_take (i:=6) (v:=?_) rfl (by kernel_rfl) (by kernel_rfl) (by kernel_rfl) (fun _ _ _ h => h) (Or.inl ⟨by rfl,?_⟩) hHeld ?_
          rotate_left 1
          ·(intro w hSw;have q0:=hSw 0 _ rfl;have q1:=hSw 1 _ rfl;have q2:=hSw 2 _ rfl;have q3:=hSw 3 _ rfl;have q4:=hSw 4 _ rfl;have q5:=hSw 5 _ rfl;have q6:=hSw 6 _ rfl;go_simp;first | done | with_reducible rfl)
          (try simp only [Act.put])
          refine wpAnyH_ready (rs:=[1,3]) (by kernel_rfl) (by simp) ?_
          refine AllReadyH.cons rfl (fun K hK => ?_) (AllReadyH.cons rfl (fun K hK => ?_) (AllReadyH.nil))
          ·go_simp
           refine hK.out _ _ hk0 (fun hHeld => ?_)
           clear hK K
           (try simp only [Act.put,zA0,zB0,zC0])
           refine wpAnyH_ready (rs:=[3]) (by kernel_rfl) (by simp) ?_
           refine AllReadyH.cons rfl (fun K hK => ?_) (AllReadyH.nil)
           ·go_simp
            refine hK.out _ _ hk1 (fun hHeld => ?_)
            clear hK K
            (try simp only [Act.put,zA0,zB0,zC0])
            refine wpAnyH_ready (rs:=[4]) (by kernel_rfl) (by simp) ?_
            refine AllReadyH.cons rfl (fun K hK => ?_) (AllReadyH.nil)
            ·refine step_append_lies _ rfl (.tmp 97) (.tmp 99) 37 rfl B2 43 ti _ 7 72 Tryz.underlying37 hti hti1 hti2 hti3 tySnaps.zs (by decide) _ ns.length (nlsV ns) (by simp [Act.eval]) HL.out.2.1 _ 1 1 (nlV ⟨p,F,fc⟩) (by simp [Act.eval]) rfl HL.out.1 (nlV_one _) (by omega) (by unfold maxLen <;> omega) (by omega) (by simp <;> omega) _ rfl ?_
             intro g cap w8 hown8 hg8 _ _
             obtain ⟨d0,d1,d2,d3,d4,hG8⟩:=HL.out.2.2 g cap w8 hown8 hg8
             have HG8:=hide (And.intro d0 hG8)
             clear hown8 hg8 hG8
             refine hK.out _ _ HG8.out.1.cell (fun hHeld => ?_)
             clear hK K
             (try simp only [Act.put,zA0])
             refine wpAnyH_take (i:=7) (v:=?_) rfl (by kernel_rfl) (by kernel_rfl) (by kernel_rfl) (fun _ _ _ h => h) (Or.inl ⟨by rfl,?_⟩) hHeld ?_
             rotate_left 1
             ·(intro w hSw;go_simp;first | done | with_reducible rfl)
             (try simp only [Act.put])
             refine wpAnyH_ready (rs:=[8]) (by kernel_rfl) (by simp) ?_
             refine AllReadyH.cons rfl (fun K hK => ?_) (AllReadyH.nil)
             ·go_simp
              refine hK.out _ _ (fun j u hj => (cell_else (p:=⟨bt,1,none⟩) (q:=⟨b3,j,none⟩) nb3 _).1.trans (HG8.out.1.cell j u hj)) (fun hHeld => ?_)
              clear hK K
              (try simp only [Act.put,zA0,zB0,zC0])
              refine wpAnyH_take (i:=9) (v:=?_) rfl (by kernel_rfl) (by kernel_rfl) (by kernel_rfl) (fun _ _ _ h => h) (Or.inl ⟨by rfl,?_⟩) hHeld ?_
              rotate_left 1
              ·(intro w hSw;go_simp;first | done | with_reducible rfl)
              (try simp only [Act.put,zA0])
              refine wpAnyH_ready (rs:=[10]) (by kernel_rfl) (by simp) ?_
              refine AllReadyH.cons rfl (fun K hK => ?_) (AllReadyH.nil)
              ·go_simp
               refine hK.out _ _ (fun j u hj => (cell_else (p:=⟨bt,2,none⟩) (q:=⟨b3,j,none⟩) nb3 _).1.trans ((cell_else (p:=⟨bt,1,none⟩) (q:=⟨b3,j,none⟩) nb3 _).1.trans (HG8.out.1.cell j u hj))) (fun hHeld => ?_)
               clear hK K
               (try simp only [Act.put,zA0,zB0,zC0])
               refine wpAnyH_done (by kernel_rfl) ?_ _
               refine hK1 _ _ ?_
               go_meet
               exact ⟨_,cap,HG8.out.2⟩
          ·go_simp
           refine hK.out _ _ hk1 (fun hHeld => ?_)
           clear hK K
           (try simp only [Act.put,zA0,zB0,zC0])
           refine wpAnyH_ready (rs:=[1]) (by kernel_rfl) (by simp) ?_
           refine AllReadyH.cons rfl (fun K hK => ?_) (AllReadyH.nil)
           ·go_simp
            refine hK.out _ _ hk1 (fun hHeld => ?_)
            clear hK K
            (try simp only [Act.put,zA0,zB0,zC0])
            refine wpAnyH_ready (rs:=[4]) (by kernel_rfl) (by simp) ?_
            refine AllReadyH.cons rfl (fun K hK => ?_) (AllReadyH.nil)
            ·refine step_append_lies _ rfl (.tmp 97) (.tmp 99) 37 rfl B2 43 ti _ 7 72 Tryz.underlying37 hti hti1 hti2 hti3 tySnaps.zs (by decide) _ ns.length (nlsV ns) (by simp [Act.eval]) HL.out.2.1 _ 1 1 (nlV ⟨p,F,fc⟩) (by simp [Act.eval]) rfl HL.out.1 (nlV_one _) (by omega) (by unfold maxLen <;> omega) (by omega) (by simp <;> omega) _ rfl ?_
             intro g cap w8 hown8 hg8 _ _
             obtain ⟨d0,d1,d2,d3,d4,hG8⟩:=HL.out.2.2 g cap w8 hown8 hg8
             have HG8:=hide (And.intro d0 hG8)
             clear hown8 hg8 hG8
             refine hK.out _ _ HG8.out.1.cell (fun hHeld => ?_)
             clear hK K
             (try simp only [Act.put,zA0])
             refine wpAnyH_take (i:=7) (v:=?_) rfl (by kernel_rfl) (by kernel_rfl) (by kernel_rfl) (fun _ _ _ h => h) (Or.inl ⟨by rfl,?_⟩) hHeld ?_
             rotate_left 1
             ·(intro w hSw;go_simp;first | done | with_reducible rfl)
             (try simp only [Act.put])
             refine wpAnyH_ready (rs:=[8]) (by kernel_rfl) (by simp) ?_
             refine AllReadyH.cons rfl (fun K hK => ?_) (AllReadyH.nil)
             ·go_simp
              refine hK.out _ _ (fun j u hj => (cell_else (p:=⟨bt,1,none⟩) (q:=⟨b3,j,none⟩) nb3 _).1.trans (HG8.out.1.cell j u hj)) (fun hHeld => ?_)
              clear hK K
              (try simp only [Act.put,zA0,zB0,zC0])
              refine wpAnyH_take (i:=9) (v:=?_) rfl (by kernel_rfl) (by kernel_rfl) (by kernel_rfl) (fun _ _ _ h => h) (Or.inl ⟨by rfl,?_⟩) hHeld ?_
              rotate_left 1
              ·(intro w hSw;go_simp;first | done | with_reducible rfl)
              (try simp only [Act.put,zA0])
              refine wpAnyH_ready (rs:=[10]) (by kernel_rfl) (by simp) ?_
              refine AllReadyH.cons rfl (fun K hK => ?_) (AllReadyH.nil)
              ·go_simp
               refine hK.out _ _ (fun j u hj => (cell_else (p:=⟨bt,2,none⟩) (q:=⟨b3,j,none⟩) nb3 _).1.trans ((cell_else (p:=⟨bt,1,none⟩) (q:=⟨b3,j,none⟩) nb3 _).1.trans (HG8.out.1.cell j u hj))) (fun hHeld => ?_)
               clear hK K
               (try simp only [Act.put,zA0,zB0,zC0])
               refine wpAnyH_done (by kernel_rfl) ?_ _
               refine hK1 _ _ ?_
               go_meet
               exact ⟨_,cap,HG8.out.2⟩
         case rest =>
         obtain ⟨g,cap,G8⟩:=hcut
         have hcur:curOf ((ns ++ [(⟨p,F,fc⟩:Nl)]).map plN) = p.id.toNat:=by rw [List.map_append];exact curOf_snoc _ _
         rw [← hcur] at G8
         have HG8:=hide G8
         have k8:=G8.rd.c1
         have j8:=G8.rd.f1
         have r8:=G8.tx.cell 1 _ rfl
         have e1:(ns ++ [(⟨p,F,fc⟩:Nl)]).length = ns.length + 1:=by simp
         rw [e1] at r8
         obtain ⟨tc,htc⟩:∃ tc,tc = decide (32 < ns.length + 1):=⟨_,rfl⟩
         have t3:decide ((32:Int) < ((ns.length + 1:Nat):Int)) = tc:=by rw [htc,Bool.eq_iff_iff];simp only [decide_eq_true_eq];omega
         have t4:decide ((32:Int) < (ns.length:Int) + 1) = tc:=by rw [htc,Bool.eq_iff_iff];simp only [decide_eq_true_eq];omega
         have HTC:=hide htc
         have hw1:IntKind.u64.wrap ((m:Int) - 1) = (m:Int) - 1:=by have:=HM0.out;rw [IntKind.wrap_u64];omega
         have hw2:((m:Int) - 1) % 18446744073709551616 = (m:Int) - 1:=by have:=HM0.out;omega
         clear htc G8 HL HG3 hk0 hk1 k1 k2 kl1 kl2
         cases e5 with
         | false =>
           have HQ4:Hid (oN (m - 1) l5 tc ((ns ++ [(⟨p,F,fc⟩:Nl)]).map plN) = R):=hide (by have:=HQ3.out;rw [← HTC.out] at this;simpa using this)
           clear HQ3
           go_wp2_with fail
           go_roundw
           case rel => exact ⟨m - 1,A5,c5,l5,tc,_,cap,ns ++ [⟨p,F,fc⟩],by have:=HM0.out;congr 1;omega,by omega,(fun hh => by rw [HTC.out] at hh;simp at hh;simp;omega),HQ4,HG8.out.why tc⟩
           case measure => have:=HM0.out;simp [intOf];omega
         | true =>
           have HQ4:Hid (oN (m - 1) l5 true ((ns ++ [(⟨p,F,fc⟩:Nl)]).map plN) = R):=hide (by have:=HQ3.out;simpa using this)
           clear HQ3
           go_wp2_with fail
           go_roundw
           case rel => exact ⟨m - 1,A5,c5,l5,true,_,cap,ns ++ [⟨p,F,fc⟩],by have:=HM0.out;congr 1;omega,by omega,(fun hh => by cases hh),HQ4,HG8.out.why true⟩
           case measure => have:=HM0.out;simp [intOf];omega
       | false =>
         have hq:oN m l' e' (ns.map plN) = (ns.map plN,l',e'):=oN_end (by
          cases e' with
          | true => exact .inr rfl
          | false => exact .inl (Nat.eq_zero_of_not_pos fun q => by rw [decide_eq_true q] at hgo;cases hgo))
         rw [hrd.out] at hq
         have HOP2:Hid (opn ((bodyOf l).drop 3) = (ss.map plS,ns.map plN,e')):=hide (by rw [HOP.out,hq])
         have r0:=G.rb.cell 0 _ rfl
         have fr0:=G.rb.free 0 (by simp)
         have u0:=G.tx.cell 0 _ rfl
         have r1:=G.rb.cell 1 _ rfl
         have fr1:=G.rb.free 1 (by simp)
         have u1:=G.tx.cell 1 _ rfl
         have r2:=G.rb.cell 2 _ rfl
         have fr2:=G.rb.free 2 (by simp)
         have u2:=G.tx.cell 2 _ rfl
         clear hq hrd hlen hm64 G
         cases e' with
         | true =>
           go_wp2_with fail
           (try simp only [Exit.inBlock,Exit.then])
           refine bodyPost_ret (ret_tb2 (b:=B0) rfl _ _ rfl HG.out.rb.set3b) rfl ?_
           exact opEnd_bad (er:=102) (oErr_foot HB.out.2 HM.out HOP2.out (.inl rfl)) (by decide) (below_set3b HG.out.bel HG.out.o3)
         | false =>
           go_wp2_with fail
           refine (metaWrite wc sA sc ss nA nc ns (curOf (ns.map plN)) HG.out.all.tab (HT.out.below HG.out.bel hpos)).mono ?_
           rintro e w6 (⟨hrp,v,rfl,hv,hb6⟩ | ⟨hrp,rfl,hb6⟩)
           ·obtain ⟨Ac,cc,rfl,hrc⟩:=Rd.of_own hv
            have hB6:=below_call HG.out.bel HG.out.bel.size hb6
            have HG6:=hide (HG.out.call hb6)
            have hrl:=(hr.below hB6).more hB6.size
            obtain ⟨L,hL⟩:∃ L,wrS (ss.map plS) (ns.map plN) = L:=⟨_,rfl⟩
            rw [hL] at hrc ⊢
            have HL:=hide hL
            clear hv hb6 hL
            go_wp2_with fail
            refine (equalBytes w6 w6.heap.size _ _ _ _ Ac A L l hrc hrl (Nat.le_refl _)).mono ?_
            rintro e w7 ⟨rfl,hb7⟩
            have HG7:=hide (HG6.out.call hb7)
            have HRP:=hide hrp
            clear hrc hrl hb7 hrp HG6 r0 r1 r2 fr0 fr1 fr2 u0 u1 u2
            have ra0:=HG7.out.rb.cell 0 _ rfl
            have fra0:=HG7.out.rb.free 0 (by simp)
            have ua0:=HG7.out.tx.cell 0 _ rfl
            have ra1:=HG7.out.rb.cell 1 _ rfl
            have fra1:=HG7.out.rb.free 1 (by simp)
            have ua1:=HG7.out.tx.cell 1 _ rfl
            have ra2:=HG7.out.rb.cell 2 _ rfl
            have fra2:=HG7.out.rb.free 2 (by simp)
            have ua2:=HG7.out.tx.cell 2 _ rfl
            by_cases heq:L = l
            ·have t5:(L == l) = true:=by rw [beq_iff_eq];exact heq
             have HE:=hide (oErr_ok HB.out.2 HM.out HOP2.out (by rw [HL.out,HRP.out];rintro (q | q | q);cases q;cases q;exact q heq))
             rw [t5]
             clear heq t5
             go_wp2_with fail
             (try simp only [Exit.inBlock,Exit.then])
             refine bodyPost_ret (ret_tb2 (b:=B0) rfl _ _ rfl HG7.out.rb.set3b) rfl ?_
             exact opEnd_ok HE.out HOP2.out ((HG7.out.all.set3b (Nat.lt_succ_of_lt (Nat.lt_trans HG7.out.o1 HG7.out.o2))).base (Nat.le_succ_of_le (Nat.le_trans HG7.out.o3 (Nat.le_of_lt (Nat.lt_trans HG7.out.o1 HG7.out.o2))))) (below_set3b HG7.out.bel HG7.out.o3)
            ·have t5:(L == l) = false:=by rw [beq_eq_false_iff_ne];exact heq
             have HE:=hide (oErr_foot HB.out.2 HM.out HOP2.out (.inr (.inr (by rw [HL.out];exact heq))))
             rw [t5]
             clear heq t5
             go_wp2_with fail
             (try simp only [Exit.inBlock,Exit.then])
             refine bodyPost_ret (ret_tb2 (b:=B0) rfl _ _ rfl HG7.out.rb.set3b) rfl ?_
             exact opEnd_bad (er:=102) HE.out (by decide) (below_set3b HG7.out.bel HG7.out.o3)
           ·have HE:=hide (oErr_foot HB.out.2 HM.out HOP2.out (.inr (.inl hrp)))
            have HG7:=hide (HG.out.call hb6)
            clear hb6 hrp r0 r1 r2 fr0 fr1 fr2 u0 u1 u2
            have ra0:=HG7.out.rb.cell 0 _ rfl
            have fra0:=HG7.out.rb.free 0 (by simp)
            have ua0:=HG7.out.tx.cell 0 _ rfl
            have ra1:=HG7.out.rb.cell 1 _ rfl
            have fra1:=HG7.out.rb.free 1 (by simp)
            have ua1:=HG7.out.tx.cell 1 _ rfl
            have ra2:=HG7.out.rb.cell 2 _ rfl
            have fra2:=HG7.out.rb.free 2 (by simp)
            have ua2:=HG7.out.tx.cell 2 _ rfl
            go_wp2_with fail
            (try simp only [Exit.inBlock,Exit.then])
            refine bodyPost_ret (ret_tb2 (b:=B0) rfl _ _ rfl HG7.out.rb.set3b) rfl ?_
            exact opEnd_bad (er:=102) HE.out (by decide) (below_set3b HG7.out.bel HG7.out.o3)
end
end Go.Proofs.YtpfofefecamkfaaGreatDoor
