/- THE WALKS of the catalog's number and Stage. No statement of the seat is proved here; no condition but sizes. -/
import Derived.Test.YtpfofefecamkfaaGreatDoorCtE
namespace Go.Proofs.YtpfofefecamkfaaGreatDoor
set_option maxRecDepth 100000
open Go.RowKit

theorem get_b (s:ByteArray) (k:Nat) (h:k < s.size):(s[k]'h).toNat = (s.get! k).toNat:=by
 obtain ⟨d⟩:=s
 have h2:k < d.size:=h
 have e:(ByteArray.mk d).get! k = d[k]:=by
  show d[k]! = d[k]
  exact getElem!_pos d k h2
 rw [e]
 rfl
theorem ext_data (s:ByteArray):(s.extract 1 s.size).data.toList = s.data.toList.drop 1:=by
 have e:s.size = s.data.size:=rfl
 rw [ByteArray.data_extract,Array.toList_extract,e]
 simp [List.extract]
 exact List.take_of_length_le (by simp)
theorem list_ne (l:List UInt8) (h:l ≠ []):((⟨l.toArray⟩:ByteArray).toList == []) = false:=by
 rw [beq_eq_false_iff_ne,ByteArray.toList_eq]
 intro q
 exact h (by simpa using q)
set_option maxHeartbeats 4000000 in
theorem catNumber (w:World) (hT:Tabs w) (s:ByteArray) (hs:s.size ≤ 24):Calls Tryz.prog 76 #[.string s] w fun e w' => e = .returned (.int .i64 (numOf s:Int)) ∧ Below w.heap.size w w':=by
 by_cases h2:s.size < 2
 ·have t7:decide ((s.size:Int) < 2) = true:=decide_eq_true (by omega)
  have HN:Hid (numOf s = 0):=hide (by unfold numOf nLow;rw [if_pos (by simp [h2])])
  clear h2
  go_enter Tryz.func76,Tryz.ntmps76
  go_wp2_with fail
  go_ret
  rw [HN.out]
  exact ⟨rfl,Below.refl _ _⟩
 have t7:decide ((s.size:Int) < 2) = false:=decide_eq_false (by omega)
 have z0:0 < s.size:=by omega
 have z1:1 < s.size:=by omega
 obtain ⟨x,hx⟩:∃ x,x = (s.get! 0).toNat:=⟨_,rfl⟩
 obtain ⟨y,hy⟩:∃ y,y = (s.get! 1).toNat:=⟨_,rfl⟩
 have gx:(s[0]'z0).toNat = x:=by rw [hx,get_b]
 have gy:(s[1]'z1).toNat = y:=by rw [hy,get_b]
 have HX:=hide (And.intro hx hy)
 have H2:=hide h2
 clear hx hy h2
 by_cases h3:x < 97
 ·have t11:decide ((x:Int) < 97) = true:=decide_eq_true (by omega)
  have HN:Hid (numOf s = 0):=hide (by unfold numOf nLow;rw [← HX.out.1,if_pos (by simp [h3])])
  clear h3
  go_enter Tryz.func76,Tryz.ntmps76
  go_wp2_with fail
  go_ret
  rw [HN.out]
  exact ⟨rfl,Below.refl _ _⟩
 have t11:decide ((x:Int) < 97) = false:=decide_eq_false (by omega)
 by_cases h4:122 < x
 ·have t16:decide ((122:Int) < (x:Int)) = true:=decide_eq_true (by omega)
  have HN:Hid (numOf s = 0):=hide (by unfold numOf nLow;rw [← HX.out.1,if_pos (by simp [h4])])
  clear h3 h4
  go_enter Tryz.func76,Tryz.ntmps76
  go_wp2_with fail
  go_ret
  rw [HN.out]
  exact ⟨rfl,Below.refl _ _⟩
 have t16:decide ((122:Int) < (x:Int)) = false:=decide_eq_false (by omega)
 have HL:Hid (nLow s = false):=hide (by unfold nLow;rw [← HX.out.1];simp [H2.out,h3,h4])
 clear h3 h4
 by_cases h5:y = 48
 ·have t20:((y:Int) == 48) = true:=by rw [beq_iff_eq];omega
  have HN:Hid (numOf s = 0):=hide (by unfold numOf nOdd;rw [if_neg (by rw [HL.out];simp), ← HX.out.2,if_pos (by simp [h5])])
  clear h5
  go_enter Tryz.func76,Tryz.ntmps76
  go_wp2_with fail
  go_ret
  rw [HN.out]
  exact ⟨rfl,Below.refl _ _⟩
 have t20:((y:Int) == 48) = false:=by rw [beq_eq_false_iff_ne];omega
 have H5:=hide h5
 clear h5
 go_enter Tryz.func76,Tryz.ntmps76
 go_wp2_with fail
 have hdr:=ext_data s
 have hsz:(s.extract 1 s.size).size ≤ 24:=by
  have:(s.extract 1 s.size).size = (s.extract 1 s.size).data.toList.length:=by simp
  rw [this,hdr,List.length_drop]
  have e:s.data.toList.length = s.size:=by simp
  omega
 have htrim:=strings_Trim (s.extract 1 s.size) ⟨#[48,49,50,51,52,53,54,55,56,57]⟩ w (by omega) (by decide) (ascii_of_all (by decide))
 have hdig:(⟨#[48,49,50,51,52,53,54,55,56,57]⟩:ByteArray).data.toList = digs:=rfl
 rw [hdr,hdig] at htrim
 refine htrim.mono ?_
 rintro e w1 ⟨rfl,hb1⟩
 clear htrim
 by_cases hq:Lib.trimS (s.data.toList.drop 1) digs = []
 ·rw [hq]
  have hnb:nOdd s = false:=by unfold nOdd;rw [← HX.out.2,hq];simp [H5.out]
  have hod:=nOdd_digs hnb (by have:=H2.out;omega)
  have hat:=atoi_digs hod.1 hod.2
  have HV:Hid (numOf s = nVal s):=hide (by unfold numOf;rw [if_neg (by rw [HL.out];simp),if_neg (by rw [hnb];simp)])
  have HOD:=hide hod
  clear hod hnb hq hdig
  rw [← hdr] at hat
  rcases hat with ⟨v,hv,hv2⟩ | hv
  ·have HV2:Hid (nVal s = v):=hide (nVal_ok (by rw [← hdr];exact hv))
   have hok:=strconv_Atoi_ok (s.extract 1 s.size) (by omega) (v:Int) hv w1
   clear hv hdr
   go_wp2_with fail
   refine hok.mono ?_
   rintro e w2 ⟨rfl,hw2⟩
   have hb2:Below w.heap.size w w2:=by
    rcases hw2 with rfl | ⟨t,rfl⟩
    ·exact hb1
    ·exact below_call hb1 hb1.size (Lib.bytesWorld_below _ _ _)
   clear hw2 hok
   go_wp2_with fail
   go_ret
   rw [HV.out,HV2.out]
   exact ⟨rfl,hb2⟩
  ·have HV2:Hid (nVal s = 1073741824):=hide (nVal_range (by rw [← hdr];exact hv))
   obtain ⟨tp,p,hvar⟩:=(hT.low hb1).rng
   have hrg:=strconv_Atoi_range_var (s.extract 1 s.size) (by omega) hv tp p w1 hvar
   clear hv hdr hvar
   go_wp2_with fail
   refine hrg.mono ?_
   rintro e w2 ⟨N,rfl,_,_,hb2⟩
   have hb3:=below_call hb1 hb1.size hb2
   clear hrg
   go_wp2_with fail
   go_ret
   rw [HV.out,HV2.out]
   exact ⟨rfl,hb3⟩
 ·have hne:=list_ne _ hq
  have HN:Hid (numOf s = 0):=hide (by unfold numOf;rw [if_neg (by rw [HL.out];simp),if_pos (by unfold nOdd;rw [Bool.or_eq_true];right;rw [Bool.not_eq_true', ← Bool.not_eq_true,List.isEmpty_iff];exact hq)])
  generalize (⟨(Lib.trimS (s.data.toList.drop 1) digs).toArray⟩:ByteArray) = R at *
  clear hq hdr hdig
  go_wp2_with fail
  go_ret
  rw [HN.out]
  exact ⟨rfl,hb1⟩
section
open Go.RowKit
variable {P:Program} {ops:Array Oper} {w0:World} {Q:List Slot → Prop} {o:Oper} {rest:List Oper} {ss:List Slot}
theorem wpA_str {src dst e:TypeId} (t:Nat) (l:List UInt8) (hs:P.underlying src = some (.slice e)) (he:P.underlying e = some (.int .u8)) (hd:P.underlying dst = some .string)
 (hop:o.op = .convert src dst (.tmp t)) (ht:slotAt ss t = .has (BytesR l)) (htl:t < ss.length)
 (hk:(o.looksAt ops).all (fun i => i == t || (slotAt ss i).exact) = true) (hin:(o.looksAt ops).contains t = true) (hg:∀ u,Region.wanted o (yielded ops ((lits ss).setIfInBounds t u)) = true)
 (hn:wpA P ops Ext w0 Q rest (putS ss o.dst (.is (.string ⟨l.toArray⟩)))):wpA P ops Ext w0 Q (o :: rest) ss:=by
 refine wpA_one t (BytesR l) _ ht htl (fun _ _ h => by rw [hop] at h;cases h) hk hin hg (mono_is _) (fun u w _ hu => ?_) hn
 obtain ⟨A,c,rfl,hr⟩:=hu
 have h1:=run_str (P:=P) w hs he hd hr
 have e1:Act.eval ⟨(lits ss).setIfInBounds t (.slice A l.length c),[]⟩ (.tmp t) = .slice A l.length c:=by simp [Act.eval,lits_size,htl]
 have e2:(execOp (Act.eval ⟨(lits ss).setIfInBounds t (.slice A l.length c),[]⟩) o).run P w = .ok (.value (.string ⟨l.toArray⟩)) w:=by
  simp [execOp,hop,e1,h1,Result.andThen]
 rw [e2]
 exact ⟨Below.refl _ _,rfl⟩
end
theorem below_grows (w:World) (k:Nat) (os:Array Obj):Below w.heap.size w (Go.Sort.grow (w.drewN k) os) :=
 ⟨rfl,rfl,rfl,by show w.heap.size ≤ (w.heap ++ os).size;rw [Array.size_append];omega,fun j hj => by show (w.heap ++ os)[j]? = _;rw [Array.getElem?_append_left hj]⟩
theorem dec_len (n:Nat):(Lib.decDigits n).length ≤ n + 1:=by
 induction n using Nat.strongRecOn with
 | _ n ih =>
   rw [Lib.decDigits]
   split
   ·simp
   ·have:=ih (n / 10) (by omega)
    rw [List.length_append,List.length_singleton]
    omega
theorem stName_size (c:UInt8) (n:Nat) (h:n ≤ 1073741824):(stName c n).size ≤ maxLen:=by
 have h1:=dec_len n
 have h2:(stName c n).size = (Lib.decDigits n).length + 1:=by
  show (c :: Lib.decDigits n).toArray.size = _
  simp
 unfold maxLen
 omega
theorem most_snoc (l:List ByteArray) (k:Nat) (x:ByteArray) (h:l[k]? = some x):mostOf (l.take (k + 1)) = max (mostOf (l.take k)) (numOf x):=by
 unfold mostOf
 rw [List.take_add_one,h,List.foldl_append]
 rfl
theorem numOf_le (s:ByteArray):(numOf s:Int) ≤ 9223372036854775807 ∨ 9223372036854775807 < (nVal s:Int):=by
 unfold numOf
 split
 ·left;omega
 split
 ·left;omega
 ·omega
theorem nVal_max {s:ByteArray} (h2:2 ≤ s.size) (h:nOdd s = false):(nVal s:Int) ≤ 9223372036854775807:=by
 have hod:=nOdd_digs h h2
 rcases atoi_digs hod.1 hod.2 with ⟨v,hv,hv2⟩ | hv
 ·rw [nVal_ok hv];exact hv2
 ·rw [nVal_range hv];decide
theorem numOf_max (s:ByteArray):(numOf s:Int) ≤ 9223372036854775807:=by
 unfold numOf
 split
 ·omega
 rename_i hl
 split
 ·omega
 rename_i ho
 refine nVal_max ?_ (by simpa using ho)
 unfold nLow at hl
 simp at hl
 omega
theorem litB_new (w:World) (c:UInt8):(Slot.has (BytesR [c])).holds (.slice (some ⟨w.heap.size,0,none⟩) 1 1) (w.alloc (.cells #[.int .u8 (c.toNat:Int)] 5)):=by
 refine ⟨_,_,rfl,?_⟩
 have:=Rd.lit (n:=1) (sz:=1) w 5 #[.int .u8 (c.toNat:Int)] rfl (by decide)
 exact this.more (by simp)
theorem nm_join (c:UInt8) (n:Nat):(⟨[c].toArray⟩:ByteArray) ++ (⟨(Lib.decDigits n).toArray⟩:ByteArray) = stName c n:=by
 apply ByteArray.ext
 rw [ByteArray.data_append]
 simp [stName]
def StgEnd (M:Nat → Prop) (w:World) (sb mb K:Nat) (r:So × ByteArray × Nat) (e:Ending) (w':World):Prop :=
 e = .returned (.tuple #[.string r.2.1,.int .i64 (r.2.2:Int)]) ∧ Env M w' sb mb K r.1 ∧ Mst (Ms sb mb) w w'
theorem stage_low {s:So} {c:UInt8} (h:isLow c = false) (bs:List UInt8):s.stage c bs = (s,no_,1):=by unfold So.stage;rw [if_pos h]
theorem stage_dead {s:So} {c:UInt8} (h:isLow c = true) (hd:s.dead = true) (bs:List UInt8):s.stage c bs = (s,no_,120):=by unfold So.stage;rw [if_neg (by rw [h];simp),if_pos hd]
theorem stage_count {s:So} {c:UInt8} (h:isLow c = true) (hd:s.dead = false) (hm:1073741824 ≤ mostOf (namesM s.m)) (bs:List UInt8):s.stage c bs = (s,no_,6):=by unfold So.stage;rw [if_neg (by rw [h];simp),if_neg (by rw [hd];simp),if_pos hm]
theorem stage_on {s:So} {c:UInt8} (h:isLow c = true) (hd:s.dead = false) (hm:¬ 1073741824 ≤ mostOf (namesM s.m)) (bs:List UInt8):s.stage c bs = s.stage2 (stName c (mostOf (namesM s.m) + 1)) bs:=by unfold So.stage;rw [if_neg (by rw [h];simp),if_neg (by rw [hd];simp),if_neg hm]
set_option maxHeartbeats 4000000 in
theorem catStage (M:Nat → Prop) (w:World) (sb mb cb K:Nat) (s:So) (h:Env M w sb mb K s) (hK:K ≤ 900000) (c0:w.cell? ⟨cb,0,none⟩ = some (.pointer (some ⟨sb,0,none⟩))) (hcb:cb < w.heap.size ∧ cb ≠ sb ∧ cb ≠ mb)
 (c:UInt8) (A:Option Addr) (k:Nat) (bs:List UInt8) (hr:RdQ w (fun k => ¬ M k) 1 A bs.length k (bytesV bs)) :
 Calls Tryz.prog 35 #[.pointer (some ⟨cb,0,none⟩),.int .u8 (c.toNat:Int),.slice A bs.length k] w (StgEnd M w sb mb (K + 2) (s.stage c bs)):=by
 have HE:=hide h
 by_cases hc1:c.toNat < 97
 ·have t17:decide ((c.toNat:Int) < 97) = true:=decide_eq_true (by omega)
  have HG:=hide (stage_low (s:=s) (show isLow c = false by unfold isLow;rw [decide_eq_false (by omega)];rfl) bs)
  clear hc1 h
  go_enter Tryz.func35,Tryz.ntmps35
  go_wp2_with fail
  go_ret2
  rw [HG.out]
  exact ⟨rfl,HE.out.more (by omega),Mst.refl _ _⟩
 have t17:decide ((c.toNat:Int) < 97) = false:=decide_eq_false (by omega)
 by_cases hc2:122 < c.toNat
 ·have t20:decide ((122:Int) < (c.toNat:Int)) = true:=decide_eq_true (by omega)
  have HG:=hide (stage_low (s:=s) (show isLow c = false by unfold isLow;rw [decide_eq_false (show ¬ c.toNat ≤ 122 by omega),Bool.and_false]) bs)
  clear hc1 hc2 h
  go_enter Tryz.func35,Tryz.ntmps35
  go_wp2_with fail
  go_ret2
  rw [HG.out]
  exact ⟨rfl,HE.out.more (by omega),Mst.refl _ _⟩
 have t20:decide ((122:Int) < (c.toNat:Int)) = false:=decide_eq_false (by omega)
 have HLO:Hid (isLow c = true):=hide (by unfold isLow;rw [decide_eq_true (by omega),decide_eq_true (by omega)];rfl)
 clear hc1 hc2
 obtain ⟨N,hN,hS⟩:=h.st
 have HS:=hide hS
 have HR:=hide hr
 clear h hr
 go_enter Tryz.func35,Tryz.ntmps35
 go_wp2_with fail
 refine (objList _ w sb mb N s hS (by omega)).mono ?_
 rintro e w1 ⟨hb1,A1,k1,rfl,hr1,_⟩
 clear hS
 cases hd:s.dead with
 | true =>
   rw [So.list_dead hd] at hr1 ⊢
   have HG:=hide (stage_dead HLO.out hd bs)
   dsimp only at hr1 ⊢
   clear hd
   go_wp2_with fail
   go_ret2
   rw [HG.out]
   exact ⟨rfl,(HE.out.low hb1).more (by omega),Mst.of hb1⟩
 | false =>
 rw [So.list_on hd] at hr1 ⊢
 dsimp only at hr1 ⊢
 rw [show ((0:Nat):Int) = 0 from rfl]
 have hszs:∀ x ∈ namesM s.m,x.size ≤ 24:=fun x hx => fit_size HE.out.fit hx
 obtain ⟨ns,hns⟩:∃ ns,ns = namesM s.m:=⟨_,rfl⟩
 rw [← hns] at hr1 hszs ⊢
 have HD:=hide (And.intro hd hns)
 have hnl:ns.length ≤ 9223372036854775807:=by have h1:=hr1.le;have h2:=hr1.cap;unfold maxLen at h2;omega
 have HZ:=hide hszs
 clear hd hns hszs
 go_wp2_with fail
 go_loopw [10,35] (fun mv iv wr => ∃ (m j:Nat),mv = .int .i64 (m:Int) ∧ iv = .int .i64 (j:Int) ∧ j ≤ ns.length ∧ Hid (m = mostOf (ns.take j)) ∧ (m:Int) ≤ 9223372036854775807 ∧ Below w1.heap.size w1 wr) (fun _ iv _ => ns.length - (intOf iv).toNat)
 case atStart => exact ⟨0,0,rfl,rfl,Nat.zero_le _,hide rfl,by decide,Below.refl _ _⟩
 case round =>
  obtain ⟨m,j,rfl,rfl,hj,hm,hmx,hbr⟩:=hrel
  by_cases hlt:j < ns.length
  ·obtain ⟨b,off,rfl,hb,hc⟩:=(hr1.below hbr).at_ (by omega)
   obtain ⟨nm,hnm⟩:∃ nm,ns.getD j ByteArray.empty = nm:=⟨_,rfl⟩
   have hnk:ns[j]? = some nm:=by rw [← hnm,List.getD_eq_getElem?_getD,List.getElem?_eq_getElem hlt];rfl
   have hcell:=hc j (.string nm) (by unfold strsV;rw [List.getElem?_map,hnk];rfl)
   have hz:=HZ.out nm (List.mem_of_getElem? hnk)
   have HM:Hid (mostOf (ns.take (j + 1)) = max m (numOf nm)):=hide (by rw [most_snoc ns j nm hnk,hm.out])
   have hnx:=numOf_max nm
   have hTr:Tabs wr:=(HE.out.tb.low hb1).low hbr
   have hCN:=catNumber wr hTr nm hz
   generalize numOf nm = q at *
   have HCN:=hide hCN
   clear hc hnk hnm hCN
   go_wp2_with fail
   refine HCN.out.mono ?_
   rintro e w2 ⟨rfl,hb2⟩
   have hbx:=below_call hbr hbr.size hb2
   clear hcell
   go_wp2_with fail
   go_roundw
   case rel =>
    refine ⟨max m q,j + 1,?_,by go_num,hlt,hide HM.out.symm,by omega,hbx⟩
    congr 1
    omega
   case measure => simp [intOf];omega
  ·have hm2:Hid (m = mostOf (namesM s.m)):=hide (by rw [hm.out,List.take_of_length_le (by omega),HD.out.2])
   have hb3:=below_call hb1 hb1.size hbr
   clear hm
   by_cases hbig:1073741824 ≤ m
   ·have t45:decide ((1073741824:Int) ≤ (m:Int)) = true:=decide_eq_true (by omega)
    have HG:=hide (stage_count HLO.out HD.out.1 (by rw [← hm2.out];exact hbig) bs)
    clear hbig
    go_wp2_with fail
    go_ret2
    rw [HG.out]
    exact ⟨rfl,(HE.out.low hb3).more (by omega),Mst.of hb3⟩
   ·have t45:decide ((1073741824:Int) ≤ (m:Int)) = false:=decide_eq_false (by omega)
    have HG:=hide (stage_on HLO.out HD.out.1 (by rw [← hm2.out];exact hbig) bs)
    have hmm:m < 1073741824:=by omega
    clear hbig hr1
    have hT3:=HE.out.tb.low hb3
    go_upto_region 14 with fail
    refine wp_region_abs ext_grow (by kernel_rfl) (by kernel_rfl) ?_
    simp only [List.map_cons,List.map_nil]
    refine wpA_value ext_grow ?_ (fun _ _ h => by cases h) rfl rfl ?_ ?_
    rotate_left 1
    ·intro w' hw' C hC
     go_simp
     try go_bits
     exact hC
    simp only [putS,zC0,zB0]
    refine wpA_known (Slot.has (BytesR [c])) (fun _ _ h => by cases h) rfl rfl (mono_bytes _) (fun w' hw' => ?_) ?_
    ·go_simp
     exact ⟨(Below.refl _ _).alloc (Nat.le_refl _) _,litB_new w' c⟩
    simp only [putS,zC0,zB0]
    refine wpA_str 47 (_) Tryz.underlying55 Tryz.underlying5 Tryz.underlying9 rfl rfl (by simp) rfl rfl (fun _ => rfl) ?_
    simp only [putS,zC0,zB0]
    refine wpA_value ext_grow ?_ (fun _ _ h => by cases h) rfl rfl ?_ ?_
    rotate_left 1
    ·intro w' hw' C hC
     go_simp
     try go_bits
     exact hC
    simp only [putS,zC0,zB0]
    refine wpA_value ext_grow ?_ (fun _ _ h => by cases h) rfl rfl ?_ ?_
    rotate_left 1
    ·intro w' hw' C hC
     go_simp
     try go_bits
     exact hC
    simp only [putS,zC0,zB0]
    refine wpA_known (.is (.string ⟨(Lib.decDigits (m + 1)).toArray⟩)) (fun _ _ h => by cases h) rfl rfl (mono_is _) (fun w' hw' => ?_) ?_
    ·go_simp
     exact ⟨Below.refl _ _,(strconv_Itoa ((m:Int) + 1) (by omega) (by omega) w' ((hT3.low (below_of_drew hw')).pow)).mono fun e w'' h => by obtain ⟨h1,kk,os,h2⟩:=h;exact is_ret (by rw [h1];rfl) (by rw [h2];exact below_grows _ _ _)⟩
    simp only [putS,zC0,zB0]
    refine wpA_value ext_grow ?_ (fun _ _ h => by cases h) rfl rfl ?_ ?_
    rotate_left 1
    ·intro w' hw' C hC
     have h0:¬ (9223372036854775807 < 1 + (Lib.decDigits (m + 1)).length):=by have:=dec_len (m + 1);omega
     have h1:=nm_join c (m + 1)
     go_simp
     try go_bits
     exact hC
    simp only [putS,zC0,zB0]
    refine wpA_value ext_grow ?_ (fun _ _ h => by cases h) rfl rfl ?_ ?_
    rotate_left 1
    ·intro w' hw' C hC
     go_simp
     try go_bits
     exact hC
    simp only [putS,zC0,zB0]
    intro w4 hw4
    simp only [openS]
    intro vv hvv
    have hb4:=below_call hb3 hb3.size (below_of_drew hw4)
    clear hvv hw4 hbr hT3
    have hnz:=stName_size c (m + 1) (by omega)
    rw [← hm2.out] at HG
    obtain ⟨nm,hnm⟩:∃ nm,stName c (m + 1) = nm:=⟨_,rfl⟩
    rw [hnm] at hnz HG ⊢
    have hE4:=HE.out.low hb4
    have hS4:=HS.out.keep hb4
    have hR4:RdP w4 (fun k => k ≠ sb ∧ k ≠ mb) A bs.length k bs:=((HR.out.low hb4).imp (Q:=fun k => k ≠ sb ∧ k ≠ mb) (fun j hj _ => ⟨fun q => hj (by rw [q];exact HE.out.m1),fun q => hj (by rw [q];exact HE.out.m2)⟩)).p
    have c04:=(hb4.cell (p:=⟨cb,0,none⟩) hcb.1).trans c0
    have hcz:cb < w4.heap.size:=Nat.lt_of_lt_of_le hcb.1 hb4.size
    have HB4:=hide hb4
    have HP4:=hide hE4.hP
    have HE4:=hide hE4
    clear hnm hb4 hb3 hb1 hE4
    clear hm2 hmm c0
    go_wp2_with fail
    refine (objPut _ w4 sb mb N s hS4 HP4.out (by omega) nm hnz A k bs hR4).mono ?_
    rintro e w5 ⟨rfl,hS5,O5⟩
    have c05:=(O5.cell (p:=⟨cb,0,none⟩) hcz hcb.2.1 hcb.2.2).trans c04
    have hf5:=fit_put HE.out.fit nm bs
    have hE5:=HE4.out.on hS5 (show N + 1 ≤ K + 1 by omega) O5 hf5
    unfold So.stage2 at HG
    obtain ⟨r,hr⟩:∃ r,s.put nm bs = r:=⟨_,rfl⟩
    rw [hr] at HG hS5 hE5 ⊢
    obtain ⟨s5,e5⟩:=r
    dsimp only at HG hS5 hE5 ⊢
    have M5:Mst (Ms sb mb) w w5:=(Mst.of HB4.out).trans (.ost O5)
    have HE5:=hide hE5
    clear hS4 hR4 c04 hr hf5 hE5 O5
    by_cases h5:e5 = 0
    ·subst h5
     have HG5:=hide (HG.out.trans (if_neg (by simp)))
     go_wp2_with fail
     refine (objSync _ w5 sb mb (N + 1) s5 hS5 (by omega) nm hnz).mono ?_
     rintro e w6 ⟨rfl,hS6,O6⟩
     have hf6:=fit_sync HE5.out.fit nm
     have hE6:=HE5.out.on hS6 (show N + 1 + 1 ≤ K + 2 by omega) O6 hf6
     obtain ⟨r,hr⟩:∃ r,s5.sync nm = r:=⟨_,rfl⟩
     rw [hr] at HG5 hE6 ⊢
     obtain ⟨s6,e6⟩:=r
     dsimp only at HG5 hE6 ⊢
     have M6:Mst (Ms sb mb) w w6:=M5.trans (.ost O6)
     have HE6:=hide hE6
     clear hS5 hS6 hr hf6 hE6 O6 c05
     by_cases h6:e6 = 0
     ·subst h6
      have HG6:=hide (HG5.out.trans (if_neg (by simp)))
      go_wp2_with fail
      go_ret2
      rw [HG6.out]
      exact ⟨rfl,HE6.out,M6⟩
     ·have t70:((e6:Int) != 0) = true:=by rw [bne_iff_ne];omega
      have HG6:=hide (HG5.out.trans (if_pos h6))
      clear h6
      go_wp2_with fail
      go_ret2
      rw [HG6.out]
      exact ⟨rfl,HE6.out,M6⟩
    ·have t61:((e5:Int) != 0) = true:=by rw [bne_iff_ne];omega
     have HG5:=hide (HG.out.trans (if_pos h5))
     clear h5 hS5
     go_wp2_with fail
     go_ret2
     rw [HG5.out]
     exact ⟨rfl,HE5.out.more (by omega),M5⟩
end Go.Proofs.YtpfofefecamkfaaGreatDoor
