/- THE WALKS of slices.IndexFunc, ContainsFunc, DeleteFunc, Clone at entries. No statement of the seat is proved here; no condition but sizes. -/
import Derived.Test.YtpfofefecamkfaaGreatDoorCtE
namespace Go.Proofs.YtpfofefecamkfaaGreatDoor
set_option maxRecDepth 100000
open Go.RowKit

theorem Rd.lenE {w:World} {B n c:Nat} {A:Option Addr} {l:List El} (h:Rd w B 6 A n c (elsV l)):n = l.length:=h.lenA elV 6 elV_length (by omega)
theorem elsV_cons (a:El) (l:List El):elsV (a :: l) = elV a ++ elsV l:=rfl
/-- what a closure gives, whatever was laid meanwhile -/
def PredEl (w:World) (g:Nat) (lb:Array Value) (p:El → Bool):Prop :=
 ∀ (W:World) (f:El),Below w.heap.size w W → Calls Tryz.prog g (#[.agg #[.string f.p.name,.bool f.p.keys,.int .u64 (f.p.seq.toNat:Int),.int .i64 f.p.rows.toInt,.int .u32 (f.p.sch.toNat:Int),.slice f.A f.p.stats.length f.c]] ++ lb) W fun e w' => e = .returned (.bool (p f)) ∧ Below w.heap.size w w'
set_option maxHeartbeats 1000000 in
theorem indexEl (w:World) (n c:Nat) (A:Option Addr) (l:List El) (hr:Rd w w.heap.size 6 A n c (elsV l)) (hmax:l.length ≤ 1000000) (g:Nat) (lb:Array Value) (p:El → Bool)
 (eg:∀ args w,(callFunc g args).run Tryz.prog w = .ok (.enter g args) w) (hp:PredEl w g lb p) :
 Calls Tryz.prog 158 #[.slice A n c,.func (.func g) #[] lb] w fun e w' => e = .returned (.int .i64 (ixA p l)) ∧ Below w.heap.size w w':=by
 obtain rfl:=hr.lenE
 go_enter Tryz.func158,Tryz.ntmps158
 go_wp2_with fail
 go_loopw [5,8] (fun _ kv wr => ∃ k:Nat,k ≤ l.length ∧ kv = .int .i64 (k:Int) ∧ Hid (∀ j,j < k → p (l.getD j default) = false) ∧ Hid (Below w.heap.size w wr)) (fun _ kv _ => l.length - (intOf kv).toNat)
 case atStart => exact ⟨0,Nat.zero_le _,rfl,hide (fun j h => by omega),hide (Below.refl _ _)⟩
 case round =>
  obtain ⟨k,hk,rfl,hf,hbr⟩:=hrel
  by_cases hlt:k < l.length
  ·obtain ⟨b,off,rfl,hb,hcs⟩:=(hr.below hbr.out).elA hlt
   obtain ⟨f0,f1,f2,f3,f4,f5⟩:=hcs _ rfl
   clear hcs
   have hcall:=hp wr (l.getD k default) hbr.out
   generalize hff:l.getD k default = f at *
   have HF:=hide hff
   clear hff hp
   cases hq:p f with
   | true =>
     rw [hq] at hcall
     have HQ:=hide hq
     clear hq
     go_wp2_with fail
     refine hcall.mono ?_
     rintro e w' ⟨rfl,hb'⟩
     go_wp2_with fail
     go_ret
     exact ⟨by rw [ixA_hit hlt (by rw [HF.out];exact HQ.out) hf.out];rfl,hb'⟩
   | false =>
     rw [hq] at hcall
     have HQ:=hide hq
     clear hq
     go_wp2_with fail
     refine hcall.mono ?_
     rintro e w' ⟨rfl,hb'⟩
     go_wp2_with fail
     go_roundw
     case rel =>
      refine ⟨k + 1,by omega,by go_num,hide (fun j hj => ?_),hide hb'⟩
      by_cases e:j = k
      ·rw [e,HF.out];exact HQ.out
      ·exact hf.out j (by omega)
     case measure => exact meas_sub k _ hlt
  ·obtain rfl:k = l.length:=by omega
   go_wp2_with fail
   go_ret
   exact ⟨by rw [ixA_none hf.out];rfl,hbr.out⟩
set_option maxHeartbeats 1000000 in
theorem containsEl (w:World) (n c:Nat) (A:Option Addr) (l:List El) (hr:Rd w w.heap.size 6 A n c (elsV l)) (hmax:l.length ≤ 1000000) (g:Nat) (lb:Array Value) (p:El → Bool)
 (eg:∀ args w,(callFunc g args).run Tryz.prog w = .ok (.enter g args) w) (hp:PredEl w g lb p) :
 Calls Tryz.prog 95 #[.slice A n c,.func (.func g) #[] lb] w fun e w' => e = .returned (.bool (l.any p)) ∧ Below w.heap.size w w':=by
 have hc:=indexEl w n c A l hr hmax g lb p eg hp
 rw [← ixA_ge]
 generalize ixA p l = r at *
 clear hr eg hp
 go_enter Tryz.func95,Tryz.ntmps95
 go_wp2_with fail
 refine hc.mono ?_
 rintro e w' ⟨rfl,hb⟩
 go_wp2_with fail
 go_ret
 exact ⟨rfl,hb⟩
theorem cloneEl (w:World) (B n c:Nat) (A:Option Addr) (xs:List Value) (hr:Rd w B 6 A n c xs) (h1:∀ u ∈ xs,u.oneCell' = true) (hb:n * 72 ≤ 140737488355328) (hB:B ≤ w.heap.size) :
 Calls Tryz.prog 94 #[.slice A n c] w (RetRow w 97 6 n xs):=by
 have heq:=fun W => Lib.run_eql_slice_nil (P:=Tryz.prog) W 46 97 A n c 0 0 Tryz.underlying46
 cases A with
 | none =>
   obtain ⟨rfl,rfl⟩:=hr.none_
   go_enter Tryz.func94,Tryz.ntmps94
   go_wp2_with fail
   go_ret
   exact ⟨_,rfl,World.ownsRow_nil _ _ _ _,Below.refl _ _⟩
 | some ad =>
   have hlit:=own_lit w (base:=w.heap.size) 97 6 0 #[] (Nat.le_refl _) (by decide) rfl
   have hr':=hr.alloc hB (.cells #[] 97)
   go_enter Tryz.func94,Tryz.ntmps94
   go_wp2_with (at_builtin;refine wpList_app _ tyEls rfl _ _ rfl w.heap.size _ 0 [] rfl hlit B (some ad) _ c _ rfl hr' h1 (by omega) (by simp) ?_;intro v2 w2 hown2 hg2 _;simp only [Nat.zero_add,List.nil_append] at hown2;have hb2:=below_app ((Below.refl w.heap.size w).alloc (Nat.le_refl _) _) (Nat.le_refl _) hlit hg2 (by simp))
   go_ret
   exact ⟨v2,rfl,hown2,hb2⟩
theorem elsV_set (v:El) {v0 v1 v2 v3 v4 v5:Value} (hv:elV v = [v0,v1,v2,v3,v4,v5]):∀ (arr:List El) (i:Nat),i < arr.length →
 ((((((elsV arr).set (i * 6) v0).set (i * 6 + 1) v1).set (i * 6 + 2) v2).set (i * 6 + 3) v3).set (i * 6 + 4) v4).set (i * 6 + 5) v5 = elsV (arr.set i v)
 | a :: arr,0,_ => by
   rw [zB0,elsV_cons,elsV_cons,hv]
   simp [elV]
 | a :: arr,i + 1,h => by
   have ih:=elsV_set v hv arr i (by simpa using h)
   rw [zC0,elsV_cons,elsV_cons, ← ih]
   have e:∀ t,(i + 1) * 6 + t = (i * 6 + t) + 1 + 1 + 1 + 1 + 1 + 1:=fun t => by omega
   have e0:(i + 1) * 6 = (i * 6) + 1 + 1 + 1 + 1 + 1 + 1:=by omega
   rw [e 1,e 2,e 3,e 4,e 5,e0]
   simp [elV]
theorem run_clear_els (w:World) (g o n c:Nat) (hn:0 < n) (hc:∀ j,j < n * 6 → (w.cell? ⟨g,o + j,none⟩).isSome = true) (hf:∀ j,j < n * 6 → w.frozen? ⟨g,o + j,none⟩ = false) :
 ∃ L:List Value,∀ ty,(Builtin.clear_ #[46] ty #[.slice (some ⟨g,o,none⟩) n c]).run Tryz.prog w = .ok (.tuple #[]) (w.setCells g o L):=by
 have hsz:(Builtin.zeroCells (Value.agg #[.string ⟨#[]⟩,.bool false,.int .u64 0,.int .i64 0,.int .u32 0,.slice none 0 0]).cells n).toList.length = n * 6:=by
  simp [Builtin.zeroCells]
  rfl
 have hone:∀ v ∈ (Builtin.zeroCells (Value.agg #[.string ⟨#[]⟩,.bool false,.int .u64 0,.int .i64 0,.int .u32 0,.slice none 0 0]).cells n).toList,v.oneCell' = true:=by
  intro v hv
  simp only [Builtin.zeroCells,Array.toList_map,List.mem_map] at hv
  obtain ⟨i,_,rfl⟩:=hv
  have e:(Value.agg #[.string ⟨#[]⟩,.bool false,.int .u64 0,.int .i64 0,.int .u32 0,.slice none 0 0]).cells = #[.string ⟨#[]⟩,.bool false,.int .u64 0,.int .i64 0,.int .u32 0,.slice none 0 0]:=rfl
  rw [e]
  have h7:i % 6 < 6:=Nat.mod_lt _ (by decide)
  show ((#[.string ⟨#[]⟩,.bool false,.int .u64 0,.int .i64 0,.int .u32 0,.slice none 0 0]:Array Value)[i % 6]!).oneCell' = true
  generalize i % 6 = k at h7
  match k,h7 with
  | 0,_ => rfl
  | 1,_ => rfl
  | 2,_ => rfl
  | 3,_ => rfl
  | 4,_ => rfl
  | 5,_ => rfl
 have hst:=run_storeCells_cells (P:=Tryz.prog) g o (Builtin.zeroCells (Value.agg #[.string ⟨#[]⟩,.bool false,.int .u64 0,.int .i64 0,.int .u32 0,.slice none 0 0]).cells n).toList 0 w (by rw [hsz];simpa using hc) (by rw [hsz];simpa using hf) hone
 refine ⟨(Builtin.zeroCells (Value.agg #[.string ⟨#[]⟩,.bool false,.int .u64 0,.int .i64 0,.int .u32 0,.slice none 0 0]).cells n).toList,fun ty => ?_⟩
 simp only [Nat.add_zero] at hst
 obtain ⟨m,rfl⟩:∃ m,n = m + 1:=⟨n - 1,by omega⟩
 simp [Builtin.clear_,run_underlying Tryz.underlying46,hst]
/-- what a closure gives, whatever was laid meanwhile, and whatever stands in block g -/
def PredOEl (w:World) (g fn:Nat) (lb:Array Value) (p:El → Bool):Prop :=
 ∀ (W:World) (f:El),Oth g w W → Calls Tryz.prog fn (#[.agg #[.string f.p.name,.bool f.p.keys,.int .u64 (f.p.seq.toNat:Int),.int .i64 f.p.rows.toInt,.int .u32 (f.p.sch.toNat:Int),.slice f.A f.p.stats.length f.c]] ++ lb) W fun e w' => e = .returned (.bool (p f)) ∧ Below W.heap.size W w'
theorem elsV_take:∀ (l:List El) (k:Nat),(elsV l).take (k * 6) = elsV (l.take k)
 | [],k => by simp [elsV]
 | a :: l,0 => by simp [elsV]
 | a :: l,k + 1 => by
   rw [List.take_succ_cons,elsV_cons,elsV_cons, ← elsV_take l k,show (k + 1) * 6 = (elV a).length + k * 6 by rw [elV_length];omega,List.take_length_add_append]
theorem own_el {w:World} {B g c n j:Nat} {arr:List El} (h:w.ownsRow B 97 6 (.slice (some ⟨g,0,none⟩) n c) n (elsV arr)) (hl:arr.length = n) (hj:j < n) :
 w.cell? ⟨g,j * 6,none⟩ = some (.string (arr.getD j default).p.name) ∧ w.cell? ⟨g,j * 6 + 1,none⟩ = some (.bool (arr.getD j default).p.keys) ∧ w.cell? ⟨g,j * 6 + 2,none⟩ = some (.int .u64 ((arr.getD j default).p.seq.toNat:Int)) ∧
 w.cell? ⟨g,j * 6 + 3,none⟩ = some (.int .i64 (arr.getD j default).p.rows.toInt) ∧ w.cell? ⟨g,j * 6 + 4,none⟩ = some (.int .u32 ((arr.getD j default).p.sch.toNat:Int)) ∧ w.cell? ⟨g,j * 6 + 5,none⟩ = some (.slice (arr.getD j default).A (arr.getD j default).p.stats.length (arr.getD j default).c):=by
 obtain ⟨b,off,e,_,hc⟩:=(rd_own h).elA (i:=j) (by omega)
 injection e with e
 injection e with e1 e2
 subst e1 e2
 obtain ⟨f0,f1,f2,f3,f4,f5⟩:=hc _ rfl
 simp only [Nat.zero_add] at f0 f1 f2 f3 f4 f5
 exact ⟨f0,f1,f2,f3,f4,f5⟩
set_option maxHeartbeats 4000000 in
theorem deleteEl (w:World) (B g c:Nat) (l:List El) (ho:w.ownsRow B 97 6 (.slice (some ⟨g,0,none⟩) l.length c) l.length (elsV l)) (hmax:l.length ≤ 1000000) (fn:Nat) (lb:Array Value) (p:El → Bool)
 (eg:∀ args w,(callFunc fn args).run Tryz.prog w = .ok (.enter fn args) w) (hp:PredOEl w g fn lb p) :
 Calls Tryz.prog 98 #[.slice (some ⟨g,0,none⟩) l.length c,.func (.func fn) #[] lb] w fun e w' => ∃ l',l' = l.filter (fun f => !p f) ∧ e = .returned (.slice (some ⟨g,0,none⟩) l'.length c) ∧ w'.ownsRow B 97 6 (.slice (some ⟨g,0,none⟩) l'.length c) l'.length (elsV l') ∧ Oth g w w':=by
 have hgl:=own_lt ho
 go_enter Tryz.func98,Tryz.ntmps98
 go_wp2_with fail
 refine (indexEl w l.length c (some ⟨g,0,none⟩) l (rd_own ho) hmax fn lb p eg (fun W f hb => (hp W f (Oth.of hb)).mono fun e w' h => ⟨h.1,below_call hb hb.size h.2⟩)).mono ?_
 rintro e w1 ⟨rfl,hb1⟩
 have O1:=own_below ho hb1
 rcases ixA_cases p l with ⟨k,hik,hk⟩ | him
 ·rw [hik]
  obtain ⟨_,hpk,hpj⟩:=ix_hit hik
  have HST:=hide (filt_start hk hpk hpj)
  have hne1:((k:Int) == -1) = false:=by rw [beq_eq_false_iff_ne];omega
  have HP:=hide hp
  clear hik hpk hpj hp
  go_wp2_with fail
  go_loopw [5,6] (fun iv jv wr => ∃ (i j:Nat) (arr:List El),iv = .int .i64 (i:Int) ∧ jv = .int .i64 (j:Int) ∧ i < j ∧ j ≤ l.length ∧ Hid (arr.length = l.length) ∧ Hid (arr.take i = (l.take j).filter (fun f => !p f)) ∧ Hid (arr.drop j = l.drop j) ∧ wr.ownsRow B 97 6 (.slice (some ⟨g,0,none⟩) l.length c) l.length (elsV arr) ∧ Oth g w wr) (fun _ jv _ => l.length - (intOf jv).toNat)
  case atStart => exact ⟨k,k + 1,l,rfl,by go_num,by omega,hk,hide rfl,hide HST.out.symm,hide rfl,O1,Oth.of hb1⟩
  case round =>
   clear hne1
   obtain ⟨i,j,arr,rfl,rfl,hij,hj,hal,htk,hdr,O,hoth⟩:=hrel
   by_cases hlt:j < l.length
   ·obtain ⟨f0,f1,f2,f3,f4,f5⟩:=own_el O hal.out hlt
    rw [drop_getD hdr.out] at f0 f1 f2 f3 f4 f5
    have hfs:=filt_step (p:=p) hlt
    generalize hf:l.getD j default = f at *
    have HF:=hide hf
    have HFS:=hide hfs
    clear hf hfs
    have y:=boxN_new wr #[.string f.p.name,.bool f.p.keys,.int .u64 (f.p.seq.toNat:Int),.int .i64 f.p.rows.toInt,.int .u32 (f.p.sch.toNat:Int),.slice f.A f.p.stats.length f.c] 97
    have hbA:=(Below.refl wr.heap.size wr).alloc (Nat.le_refl _) (.cells #[.string f.p.name,.bool f.p.keys,.int .u64 (f.p.seq.toNat:Int),.int .i64 f.p.rows.toInt,.int .u32 (f.p.sch.toNat:Int),.slice f.A f.p.stats.length f.c] 97)
    have O5:=own_below O hbA
    have hoth5:=hoth.trans (Oth.of hbA)
    have g0:=y.cell 0 _ rfl
    have g1:=y.cell 1 _ rfl
    have g2:=y.cell 2 _ rfl
    have g3:=y.cell 3 _ rfl
    have g4:=y.cell 4 _ rfl
    have g5:=y.cell 5 _ rfl
    have hcall:=HP.out _ f hoth5
    cases hq:p f with
    | true =>
      rw [hq] at hcall
      have HQ:=hide hq
      clear hq
      go_wp2_with fail
      refine hcall.mono ?_
      rintro e w6 ⟨rfl,hb6⟩
      go_wp2_with fail
      go_roundw
      case rel =>
       refine ⟨i,j + 1,arr,rfl,by go_num,by omega,hlt,hal,hide ?_,hide (drop_step hdr.out),own_below O5 hb6,hoth5.trans (Oth.of hb6)⟩
       rw [HFS.out,HQ.out,htk.out]
       simp
      case measure => simp [intOf];omega
    | false =>
      rw [hq] at hcall
      have HQ:=hide hq
      clear hq
      go_wp2_with fail
      refine hcall.mono ?_
      rintro e w6 ⟨rfl,hb6⟩
      have O6:=own_below O5 hb6
      have y6:=y.keep hb6 y.z
      have hoth6:=hoth5.trans (Oth.of hb6)
      generalize wr.heap.size = b5 at *
      clear f0 f1 f2 f3 f4 f5 g0 g1 g2 g3 g4 g5 hcall
      have g0:=y6.cell 0 _ rfl
      have g1:=y6.cell 1 _ rfl
      have g2:=y6.cell 2 _ rfl
      have g3:=y6.cell 3 _ rfl
      have g4:=y6.cell 4 _ rfl
      have g5:=y6.cell 5 _ rfl
      obtain ⟨f0,f1,f2,f3,f4,f5⟩:=own_el O6 hal.out (show i < l.length by omega)
      have r0:=own_free O6 (i * 6)
      have r1:=own_free O6 (i * 6 + 1)
      have r2:=own_free O6 (i * 6 + 2)
      have r3:=own_free O6 (i * 6 + 3)
      have r4:=own_free O6 (i * 6 + 4)
      have r5:=own_free O6 (i * 6 + 5)
      have HO6:=hide (And.intro O6 hoth6)
      have hil:i < l.length:=by omega
      clear O O5 O6 hoth hoth5 hoth6 y y6 hbA hb6
      go_wp2_with fail
      go_roundw
      case rel =>
       have O7:=own_set1 (own_set1 (own_set1 (own_set1 (own_set1 (own_set1 HO6.out.1 (i * 6) (.string f.p.name)) (i * 6 + 1) (.bool f.p.keys)) (i * 6 + 2) (.int .u64 (f.p.seq.toNat:Int))) (i * 6 + 3) (.int .i64 f.p.rows.toInt)) (i * 6 + 4) (.int .u32 (f.p.sch.toNat:Int))) (i * 6 + 5) (.slice f.A f.p.stats.length f.c)
       rw [elsV_set f rfl arr i (by rw [hal.out];exact hil)] at O7
       refine ⟨i + 1,j + 1,arr.set i f,by go_num,by go_num,by omega,hlt,hide (by rw [List.length_set];exact hal.out),hide ?_,hide ?_,O7,?_⟩
       ·rw [HFS.out,HQ.out, ← htk.out,List.take_add_one,List.take_set_of_le (Nat.le_refl _)]
        have:i < arr.length:=by rw [hal.out];exact hil
        simp [this]
       ·rw [List.drop_set_of_lt (by omega)];exact drop_step hdr.out
       ·exact (((((HO6.out.2.trans (oth_set _ _ _ _)).trans (oth_set _ _ _ _)).trans (oth_set _ _ _ _)).trans (oth_set _ _ _ _)).trans (oth_set _ _ _ _)).trans (oth_set _ _ _ _)
      case measure => simp [intOf];omega
   ·obtain rfl:j = l.length:=by omega
    have hcc:l.length ≤ c:=(rd_own O).le
    have hne:c ≠ i:=by omega
    have hlo:=fun W => run_cut_lo tyEls (some ⟨g,0,none⟩) l.length c .i64 (i:Int) i rfl (by omega) hcc W
    have hlo2:=fun W => cut_lo tyEls (some ⟨g,0,none⟩) l.length c .i64 (i:Int) i rfl (by omega) hcc W
    simp only [if_neg hne,Option.map_some,Addr.add_lit,Nat.zero_add] at hlo hlo2
    have hhi:=fun W => run_cut_hi tyEls (some ⟨g,0,none⟩) l.length c .i64 (i:Int) i rfl (by omega) W
    have hhi2:=fun W => cut_hi tyEls (some ⟨g,0,none⟩) l.length c .i64 (i:Int) i rfl (by omega) W
    have hmul:i * 6 + (l.length - i) * 6 = l.length * 6:=by omega
    obtain ⟨L,hcl⟩:=run_clear_els wr g (i * 6) (l.length - i) (c - i) (by omega) (fun t ht => own_cell O (by omega)) (fun t _ => own_free O _)
    have HO:=hide (And.intro O hoth)
    clear O hoth hmul
    go_wp2_with (simp only [hcl])
    go_ret
    obtain ⟨xs',h',htx,ho'⟩:=own_sets L wr (elsV arr) (i * 6) HO.out.1
    have hfin:l.filter (fun f => !p f) = arr.take i:=by have:=htk.out;rw [List.take_length] at this;exact this.symm
    have hlen:(arr.take i).length = i:=by rw [List.length_take,hal.out];omega
    refine ⟨arr.take i,hfin.symm,?_,?_,HO.out.2.trans ho'⟩
    ·rw [hlen];rfl
    ·rw [hlen]
     have:=own_cut h' (i:=i) (by omega)
     rw [htx _ (Nat.le_refl _),elsV_take] at this
     exact this
 ·rw [him]
  have HE:=hide (ix_miss him)
  clear him
  go_wp2_with fail
  go_ret
  exact ⟨l,HE.out.symm,rfl,O1,Oth.of hb1⟩
set_option maxHeartbeats 1000000 in
theorem deleteEl0 (w:World) (fn:Nat) (lb:Array Value) (p:El → Bool) (eg:∀ args w,(callFunc fn args).run Tryz.prog w = .ok (.enter fn args) w) {g:Nat} (hp:PredOEl w g fn lb p) :
 Calls Tryz.prog 98 #[.slice none 0 0,.func (.func fn) #[] lb] w fun e w' => e = .returned (.slice none 0 0) ∧ Below w.heap.size w w':=by
 go_enter Tryz.func98,Tryz.ntmps98
 go_wp2_with fail
 refine (indexEl w 0 0 none [] (Rd.nil _ _ _) (by decide) fn lb p eg (fun W f hb => (hp W f (Oth.of hb)).mono fun e w' h => ⟨h.1,below_call hb hb.size h.2⟩)).mono ?_
 rintro e w1 ⟨rfl,hb1⟩
 have e1:ixA p ([]:List El) = -1:=rfl
 rw [e1]
 go_wp2_with fail
 go_ret
 exact ⟨rfl,hb1⟩
end Go.Proofs.YtpfofefecamkfaaGreatDoor
