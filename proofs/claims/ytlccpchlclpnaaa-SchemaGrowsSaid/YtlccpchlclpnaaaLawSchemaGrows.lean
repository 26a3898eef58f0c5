/- SchemaGrows: for every input the law returns true, and what was there is as it was. No condition. -/
import Derived.Test.YtlccpchlclpnaaaRows
import Derived.Test.YtlccpchlclpnaaaFrame
import Derived.Test.YtlccpchlclpnaaaFrameT
import Derived.Test.YtlccpchlclpnaaaGrowW
import Derived.Test.YtlccpchlclpnaaaGreat
import Derived.Test.YtlccpchlclpnaaaFit
import Derived.Test.YtlccpchlclpnaaaLift
import Derived.Test.YtlccpchlclpnaaaRow
namespace Go.Proofs.Ytlccpchlclpnaaa.schemaGrows
open Go.Proofs.Ytlccpchlclpnaaa
open Go.ChangeShapes Go.WideShapes Go.ChangeAt Go.RowKit
open Go.ChangeMaps (open_string shut_string)

theorem own : ownKnob Try.prog.godebug = none := by kernel_rfl
theorem laidOut : laidOutB Try.prog = true := by kernel_rfl

theorem set2_keep {W : World} {b : Nat} {p : Addr} {v : Option Value} (hne : p.block ≠ b) (h : W.cell? p = v) (x y : Value) : ((W.setCell ⟨b, 0, none⟩ x).setCell ⟨b, 1, none⟩ y).cell? p = v := by
  rw [World.cell?_setCell_other, World.cell?_setCell_other]
  · exact h
  · intro q; exact hne (by rw [← q])
  · intro q; exact hne (by rw [← q])
theorem grow_box (w : World) (b : Nat) (hb : b = w.heap.size) (x y : Value) (t : TypeId) : ∀ j, 2 ≤ j → (w.alloc (.cells #[x, y] t)).cell? ⟨b, j, none⟩ = none := by
  intro j hj
  subst hb
  rw [cell_of_row _ _ _ #[x, y] t (0, 0) (heap_alloc_new w _)]
  simp
  omega
theorem lift_id {l : List Fd} (h : ∀ j, j < l.length → errAt l j = 0) (row : List Vl) (hr : row.length = l.length) : liftRow l l row = row := by
  have := lift_on (l := l) (m := []) (by simpa using h) row hr
  simpa using this
set_option maxRecDepth 100000 in
set_option maxHeartbeats 4000000 in
theorem walk (w : World) (id : UInt32) (A : Option Addr) (n c : Nat) (l : List Fd) (hr0 : Rd w w.heap.size 4 A n c (fdsV l)) (sA : Option Addr) (sn sc : Nat) (names : List ByteArray) (hs0 : Rd w w.heap.size 1 sA sn sc (strsV names))
    (kA : Option Addr) (kn kc : Nat) (kinds : List UInt8) (hk0 : Rd w w.heap.size 1 kA kn kc (bytesV kinds)) (cA : Option Addr) (cn cc : Nat) (cl : List Cl) (hc0 : Rd w w.heap.size 3 cA cn cc (clsV cl)) :
    Calls Try.prog 6 #[.agg #[.int .u32 (id.toNat : Int), .slice A n c], .slice sA sn sc, .slice kA kn kc, .slice cA cn cc] w (RetVal w (.bool true)) := by
  obtain rfl := hr0.lenF
  obtain rfl := hs0.lenT
  obtain rfl := hk0.lenB
  obtain rfl := hc0.lenC
  go_enter Try.func6, Try.ntmps6
  go_wp2_with fail
  have x1 := box_new w #[.int .u32 (id.toNat : Int), .slice A l.length c] 25
  generalize hwa : w.alloc (.cells #[.int .u32 (id.toNat : Int), .slice A l.length c] 25) = w1 at *
  obtain ⟨cs, _, z1, hb1⟩ := x1.lift (Below.refl _ _)
  have sa1 : w1.cell? ⟨w.heap.size, 0, none⟩ = some (.int .u32 (id.toNat : Int)) := cs 0 _ rfl
  have sb1 : w1.cell? ⟨w.heap.size, 1, none⟩ = some (.slice A l.length c) := cs 1 _ rfl
  have hr1 := (hr0.below hb1).more hb1.size
  have hs1 := (hs0.below hb1).more hb1.size
  have hk1 := (hk0.below hb1).more hb1.size
  have hc1 := (hc0.below hb1).more hb1.size
  obtain ⟨bs, hbs⟩ : ∃ bs, bs = w.heap.size := ⟨_, rfl⟩
  rw [← hbs] at sa1 sb1 z1 ⊢
  have hB1 := hb1
  clear hwa cs x1 hbs hr0 hs0 hk0 hc0 hb1
  refine (alive08 w1).mono ?_
  rintro e w2 ⟨rfl, hb2⟩
  have sa2 := (hb2.cell (p := ⟨bs, 0, none⟩) z1).trans sa1
  have sb2 := (hb2.cell (p := ⟨bs, 1, none⟩) z1).trans sb1
  have z2 : bs < w2.heap.size := Nat.lt_of_lt_of_le z1 hb2.size
  have hr2 := (hr1.below hb2).more hb2.size
  have hs2 := (hs1.below hb2).more hb2.size
  have hk2 := (hk1.below hb2).more hb2.size
  have hB2 : Below w.heap.size w w2 := below_call hB1 hB1.size hb2
  have hc2 := (hc1.below hb2).more hb2.size
  clear sa1 sb1 z1 hr1 hs1 hk1 hB1 hb2 hc1
  go_wp2_with fail
  refine (refGreat w2 id _ c A l hr2).mono ?_
  rintro e w3 ⟨g, rfl, hsm, hb3⟩
  have sa3 := (hb3.cell (p := ⟨bs, 0, none⟩) z2).trans sa2
  have sb3 := (hb3.cell (p := ⟨bs, 1, none⟩) z2).trans sb2
  have z3 : bs < w3.heap.size := Nat.lt_of_lt_of_le z2 hb3.size
  have hr3 := (hr2.below hb3).more hb3.size
  have hs3 := (hs2.below hb3).more hb3.size
  have hk3 := (hk2.below hb3).more hb3.size
  have hB3 : Below w.heap.size w w3 := below_call hB2 hB2.size hb3
  have hc3 := (hc2.below hb3).more hb3.size
  clear sa2 sb2 z2 hr2 hs2 hk2 hB2 hb3 hc2
  cases g with
  | true =>
    go_wp2_with fail
    go_ret
    exact ⟨rfl, hB3⟩
  | false =>
    have hl100 : l.length ≤ 100 := (hsm rfl).1
    clear hsm
    by_cases hn : 100 < cl.length
    · have t1 : decide ((100 : Int) < (cl.length : Int)) = true := decide_eq_true (by omega)
      clear hn
      go_wp2_with fail
      go_ret
      exact ⟨rfl, hB3⟩
    have t1 : decide ((100 : Int) < (cl.length : Int)) = false := decide_eq_false (by omega)
    have hn' : cl.length ≤ 100 := by omega
    clear hn
    go_wp2_with fail
    refine (lawRow w3 _ cl.length cc cA cl hc3 (Nat.le_refl _) (by omega)).mono ?_
    rintro e w4 ⟨vv, rfl, ho, hb4⟩
    obtain ⟨vA, vc, rfl, hv4⟩ := Rd.of_own ho
    obtain ⟨rv, hrv⟩ : ∃ rv, rv = cl.map valOf := ⟨_, rfl⟩
    have hlen : cl.length = rv.length := by rw [hrv, List.length_map]
    rw [← hrv] at hv4
    rw [hlen] at hv4 hn' ⊢
    clear ho hrv hlen hc3 t1
    have sa4 := (hb4.cell (p := ⟨bs, 0, none⟩) z3).trans sa3
    have sb4 := (hb4.cell (p := ⟨bs, 1, none⟩) z3).trans sb3
    have z4 : bs < w4.heap.size := Nat.lt_of_lt_of_le z3 hb4.size
    have hr4 := (hr3.below hb4).more hb4.size
    have hs4 := (hs3.below hb4).more hb4.size
    have hk4 := (hk3.below hb4).more hb4.size
    have hB4 : Below w.heap.size w w4 := below_call hB3 hB3.size hb4
    clear sa3 sb3 z3 hr3 hs3 hk3 hB3 hb4 
    go_wp2_with fail
    refine (schFit w4 id _ c A l hr4 _ vc vA rv hv4).mono ?_
    rintro e w5 ⟨rfl, hb5⟩
    have sa5 := (hb5.cell (p := ⟨bs, 0, none⟩) z4).trans sa4
    have sb5 := (hb5.cell (p := ⟨bs, 1, none⟩) z4).trans sb4
    have z5 : bs < w5.heap.size := Nat.lt_of_lt_of_le z4 hb5.size
    have hr5 := (hr4.below hb5).more hb5.size
    have hs5 := (hs4.below hb5).more hb5.size
    have hk5 := (hk4.below hb5).more hb5.size
    have hB5 : Below w.heap.size w w5 := below_call hB4 hB4.size hb5
    have hv5 := (hv4.below hb5).more hb5.size
    clear sa4 sb4 z4 hr4 hs4 hk4 hB4 hb5 hv4
    by_cases hf : fitErr l rv = 0
    rotate_left 1
    · have t2 : ((fitErr l rv : Int) != 0) = true := by rw [bne_iff_ne]; omega
      clear hf
      generalize fitErr l rv = fe at t2 ⊢
      go_wp2_with fail
      go_ret
      exact ⟨rfl, hB5⟩
    have t2 : ((fitErr l rv : Int) != 0) = false := by rw [hf]; rfl
    have HF := hide hf
    clear hf
    obtain ⟨fe, hfe⟩ : ∃ fe, fe = fitErr l rv := ⟨_, rfl⟩
    rw [← hfe] at t2 ⊢
    clear hfe
    go_wp2_with fail
    refine (schCheck w5 id _ c A l hr5).mono ?_
    rintro e w6 ⟨rfl, hb6⟩
    have sa6 := (hb6.cell (p := ⟨bs, 0, none⟩) z5).trans sa5
    have sb6 := (hb6.cell (p := ⟨bs, 1, none⟩) z5).trans sb5
    have z6 : bs < w6.heap.size := Nat.lt_of_lt_of_le z5 hb6.size
    have hr6 := (hr5.below hb6).more hb6.size
    have hs6 := (hs5.below hb6).more hb6.size
    have hk6 := (hk5.below hb6).more hb6.size
    have hB6 : Below w.heap.size w w6 := below_call hB5 hB5.size hb6
    have hv6 := (hv5.below hb6).more hb6.size
    clear sa5 sb5 z5 hr5 hs5 hk5 hB5 hb6 hv5
    by_cases hck : check id l = 0
    rotate_left 1
    · have t3 : ((check id l : Int) != 0) = true := by rw [bne_iff_ne]; omega
      clear hck
      generalize check id l = ck at t3 ⊢
      go_wp2_with fail
      go_ret
      exact ⟨rfl, hB6⟩
    have t3 : ((check id l : Int) != 0) = false := by rw [hck]; rfl
    have HCK := hide hck
    clear hck
    obtain ⟨ck, hce⟩ : ∃ ck, ck = check id l := ⟨_, rfl⟩
    rw [← hce] at t3 ⊢
    clear hce
    go_wp2_with fail
    have x2 := box_new w6 #[.int .u32 (id.toNat : Int), .slice A l.length c] 25
    have xc2 := grow_box w6 _ rfl (.int .u32 (id.toNat : Int)) (.slice A l.length c) 25
    generalize hwb : w6.alloc (.cells #[.int .u32 (id.toNat : Int), .slice A l.length c] 25) = w7 at *
    obtain ⟨ct, fz, zt, hb7⟩ := x2.lift (Below.refl _ _)
    have G0 : GI w6 w6.heap.size l rv id A c l [] vA vc rv w7 := ⟨by simp, by simp, HCK.out, ct 0 _ rfl, ct 1 _ rfl, xc2, fz 0, fz 1, zt, (hr6.below hb7).more hb7.size, (hv6.below hb7).more hb7.size, hv6.away (Nat.le_refl _), hb7⟩
    obtain ⟨bt, hbt⟩ : ∃ bt, bt = w6.heap.size := ⟨_, rfl⟩
    rw [← hbt] at G0 z6 hr6 hs6 hk6 hv6 ⊢
    have hBt : w.heap.size ≤ bt := by rw [hbt]; exact hB6.size
    obtain ⟨hrl, hon⟩ : rv.length = l.length ∧ ∀ m, (∀ j, j < (l ++ m).length → errAt (l ++ m) j = 0) → fitErr (l ++ m) (rv ++ List.replicate m.length .none) = 0 := by
      have h1 := (check_len HCK.out).2.1
      have hall := check_all HCK.out
      have := fit_on (l := l) (m := []) (by simpa using hall) h1 rv HF.out
      exact ⟨this.1, fun m hm => (fit_on (l := l) (m := m) hm h1 rv HF.out).2⟩
    have HON := hide hon
    have HRL := hide hrl
    clear hrl hon hwb ct fz zt hb7 x2 xc2 hbt t2 t3
    go_loopw [11, 12] (GR w6 bt l rv) (fun _ iv _ => 12 - (intOf iv).toNat)
    case atStart => exact ⟨0, id, A, c, l, [], vA, vc, rv, rfl, rfl, by omega, G0⟩
    case round =>
      clear G0
      obtain ⟨k, tid, tA, tc, tl, ext, nA, nc, now, rfl, rfl, hk, G⟩ := hrel
      have htl8 : tl.length ≤ 8 := (check_len G.chk).2.2
      have HNOW : Hid (now.length = tl.length) := hide (by rw [G.now_, G.tl_]; simp [HRL.out])
      by_cases h1 : k < names.length
      · by_cases h2 : k < 12
        · by_cases h3 : k < kinds.length
          · -- THE BODY
            have t2 : decide ((k : Int) < 12) = true := decide_eq_true (by omega)
            obtain ⟨b1, o1, rfl, y1, p1⟩ := (G.old hs6).st h1
            obtain ⟨b2, o2, rfl, y2, p2⟩ := (G.old hk6).by_ h3
            generalize names.getD k default = name at *
            obtain ⟨kb, hkb⟩ : ∃ kb, kb = (kinds.getD k default).toNat := ⟨_, rfl⟩
            have hkb2 : kb < 256 := by rw [hkb]; exact (kinds.getD k default).toNat_lt
            rw [← hkb] at p2
            clear hkb
            by_cases hn : 1000 < name.size
            · have t4 : decide ((1000 : Int) < (name.size : Int)) = true := decide_eq_true (by omega)
              clear hn
              go_wp2_with fail
              go_ret
              exact ⟨rfl, hB6.trans (G.below.mono hBt)⟩
            have t4 : decide ((1000 : Int) < (name.size : Int)) = false := decide_eq_false (by omega)
            clear hn
            have c0 := G.c0
            have c1 := G.c1
            have zt : bt < wr.heap.size := G.z
            have zne : bt ≠ wr.heap.size := Nat.ne_of_lt G.z
            have yne1 : b1 ≠ wr.heap.size := Nat.ne_of_lt y1
            have yne2 : b2 ≠ wr.heap.size := Nat.ne_of_lt y2
            go_wp2_with fail
            go_cut [13, 14] from 37 to 99 (fun uv ev wx => AddDone w6 bt l rv tid tA tc tl ext nA nc now name kb uv ev wx)
            case first =>
              go_region_held3 (fun w' => w'.cell? ⟨bt, 0, none⟩ = some (.int .u32 (tid.toNat : Int)) ∧ w'.cell? ⟨bt, 1, none⟩ = some (.slice tA tl.length tc) ∧ w'.cell? ⟨b1, o1 + k, none⟩ = some (.string name) ∧ w'.cell? ⟨b2, o2 + k, none⟩ = some (.int .u8 (kb : Int)))
                (first | exact ⟨d0, d1, d2, d3⟩ | exact ⟨set2_keep zne d0 _ _, set2_keep zne d1 _ _, set2_keep yne1 d2 _ _, set2_keep yne2 d3 _ _⟩ | go_keep)
                (first
                  | (go_at_call 13; refine (schAdd _ tid _ tc tA tl G.rt.drew name kb hkb2).mono ?_; rintro e w1 ⟨v1, rfl, ⟨uA, uc, rfl, hru⟩, hb1⟩; have hbW := below_of_drew hb1; have d0 := (hbW.cell (p := ⟨bt, 0, none⟩) zt).trans c0; have d1 := (hbW.cell (p := ⟨bt, 1, none⟩) zt).trans c1; have d2 := (hbW.cell (p := ⟨b1, o1 + k, none⟩) y1).trans p1; have d3 := (hbW.cell (p := ⟨b2, o2 + k, none⟩) y2).trans p2)
                  | (go_at_call 13; refine (schAdd _ tid _ tc tA tl ((G.rt.drew.alloc (Nat.le_refl _) _).more (by simp)) name kb hkb2).mono ?_; rintro e w1 ⟨v1, rfl, ⟨uA, uc, rfl, hru⟩, hb1⟩; have hbP := pre_box hb1; obtain ⟨k0, k1, k2, k3, _, _, hbW⟩ := hbP; have d0 := (hbW.cell (p := ⟨bt, 0, none⟩) zt).trans c0; have d1 := (hbW.cell (p := ⟨bt, 1, none⟩) zt).trans c1; have d2 := (hbW.cell (p := ⟨b1, o1 + k, none⟩) y1).trans p1; have d3 := (hbW.cell (p := ⟨b2, o2 + k, none⟩) y2).trans p2))
              all_goals (try go_wp2_with fail)
              all_goals go_meet
              all_goals first | exact add_after G hb1 hru | exact add_before G hb1 hru
            case rest =>
              obtain ⟨bu, uA, uc, rfl, rfl, u0, u1, zu, hru, GB⟩ := hcut
              clear G c0 c1 p1 p2 y1 y2 zt zne yne1 yne2 t4
              by_cases he : addErr tid tl name kb = 0
              · obtain ⟨_, e2, hid, e3, hck2⟩ := check_grown hkb2 he
                have t5 : ((addErr tid tl name kb : Int) != 0) = false := by rw [he]; rfl
                clear he
                obtain ⟨ae, hae⟩ : ∃ ae, ae = addErr tid tl name kb := ⟨_, rfl⟩
                obtain ⟨uid, hui⟩ : ∃ uid, uid = addId tid tl name kb := ⟨_, rfl⟩
                obtain ⟨uf, huf⟩ : ∃ uf, uf = newFd tl name kb := ⟨_, rfl⟩
                obtain ⟨ul, hul⟩ : ∃ ul, ul = tl ++ [uf] := ⟨_, rfl⟩
                rw [e3, ← huf, ← hul] at hru u1
                rw [← hui] at u0
                rw [← hae] at t5 ⊢
                rw [← hui, ← huf, ← hul] at hck2
                have hid2 : uid.toNat = tid.toNat + 1 := by rw [hui, e2, ofNat32 hid]
                have hull : ul.length = tl.length + 1 := by rw [hul]; simp
                have hid3 : ((tid.toNat : Int) + 1) % 4294967296 = (uid.toNat : Int) := by omega
                have hid4 : IntKind.u32.wrap ((tid.toNat : Int) + 1) = (uid.toNat : Int) := by rw [IntKind.wrap_u32]; omega
                have hlen4 : ((tl.length : Int) + 1) = (ul.length : Int) := by omega
                have HCK2 := hide hck2
                have HUL := hide hul
                have t6 : ((check uid ul : Int) != 0) = false := by rw [hck2]; rfl
                obtain ⟨cu, hcu⟩ : ∃ cu, cu = check uid ul := ⟨_, rfl⟩
                rw [← hcu] at t6
                have HCU := hide hcu
                clear hcu hae hui huf hul e2 e3 hck2 hid hid2 hull
                have c0 := GB.c0
                have c1 := GB.c1
                go_wp2_with fail
                refine (schCheck wc uid _ uc uA ul hru).mono ?_
                rintro e wC ⟨rfl, hbC⟩
                rw [← HCU.out]
                have u0C := (hbC.cell (p := ⟨bu, 0, none⟩) zu).trans u0
                have u1C := (hbC.cell (p := ⟨bu, 1, none⟩) zu).trans u1
                have zuC := Nat.lt_of_lt_of_le zu hbC.size
                have GC := GB.call hbC
                have hruC := (hru.below hbC).more hbC.size
                clear u0 u1 zu GB hru hbC c0 c1 t5
                have c0 := GC.c0
                have c1 := GC.c1
                go_wp2_with fail
                refine (schLift wC tid uid _ tc _ uc _ nc tA uA nA tl ul now GC.rt hruC GC.rn (by omega) (by omega)).mono ?_
                rintro e wD ⟨vd, rfl, hod, hbD⟩
                have hlo : liftRow tl ul now = now ++ [Vl.none] := by
                  have hall := check_all HCK2.out
                  rw [HUL.out] at hall ⊢
                  exact (lift_on (l := tl) (m := [uf]) hall now HNOW.out).trans (by simp)
                rw [hlo] at hod
                have hul2 : ul.length = (now ++ [Vl.none]).length := by rw [HUL.out]; simp [HNOW.out]
                rw [hul2] at hod
                obtain ⟨mA, mc, rfl, hrm, ham⟩ := Rd.of_own2 hod GC.z
                have GD := GC.call hbD
                have u0D := (hbD.cell (p := ⟨bu, 0, none⟩) zuC).trans u0C
                have u1D := (hbD.cell (p := ⟨bu, 1, none⟩) zuC).trans u1C
                have hruD := (hruC.below hbD).more hbD.size
                clear u0C u1C zuC GC hruC hbD hod hlo c0 c1
                have c0 := GD.c0
                have c1 := GD.c1
                have f0 := GD.f0
                have f1 := GD.f1
                have hG : GI w6 bt l rv uid uA uc ul (ext ++ [uf]) mA mc (now ++ [Vl.none]) ((wD.setCell ⟨bt, 0, none⟩ (.int .u32 (uid.toNat : Int))).setCell ⟨bt, 1, none⟩ (.slice uA ul.length uc)) := by
                  have := HUL.out
                  subst this
                  exact GD.store HCK2.out hruD hrm ham
                obtain ⟨mm, hmm⟩ : ∃ mm, mm = now ++ [Vl.none] := ⟨_, rfl⟩
                rw [← hmm] at hG hul2 hrm ham ⊢
                have HG := hide hG
                clear hG hmm GD hrm ham hruD hul2
                go_wp2_with fail
                go_roundw
                case rel => exact ⟨k + 1, uid, uA, uc, ul, ext ++ [uf], mA, mc, mm, by go_num, rfl, by omega, HG.out⟩
                case measure => exact meas_sub k _ h2
              · have t5 : ((addErr tid tl name kb : Int) != 0) = true := by rw [bne_iff_ne]; omega
                clear he
                generalize addErr tid tl name kb = ae at t5 ⊢
                have HG := hide GB
                clear GB hru u0 u1 zu
                go_wp2_with fail
                go_roundw
                case rel => exact ⟨k + 1, tid, tA, tc, tl, ext, nA, nc, now, by go_num, rfl, by omega, HG.out⟩
                case measure => exact meas_sub k _ h2
          · -- THE END
            have t2 : decide ((k : Int) < 12) = true := decide_eq_true (by omega)
            have hall := check_all G.chk
            rw [G.tl_] at hall
            have hF : fitErr tl now = 0 := by rw [G.tl_, G.now_]; exact HON.out ext hall
            have hL1 : liftRow l tl rv = now := by rw [G.tl_, G.now_]; exact lift_on hall rv HRL.out
            have hL2 : liftRow l l rv = rv := lift_id (check_all HCK.out) rv HRL.out
            have hL3 : liftRow tl l now = rv := by rw [G.tl_, G.now_]; exact lift_back hall rv _ HRL.out (by simp)
            have t5 : ((fitErr tl now : Int) == 0) = true := by rw [hF]; rfl
            have HL1 := hide hL1
            have HL2 := hide hL2
            have HL3 := hide hL3
            clear hall hF hL1 hL2 hL3
            have c0 := G.c0
            have c1 := G.c1
            have q0 := (G.below.cell (p := ⟨bs, 0, none⟩) z6).trans sa6
            have q1 := (G.below.cell (p := ⟨bs, 1, none⟩) z6).trans sb6
            go_wp2_with fail
            refine (schFit wr tid _ tc tA tl G.rt _ nc nA now G.rn).mono ?_
            rintro e v1 ⟨rfl, hd1⟩
            obtain ⟨fe2, hfe2⟩ : ∃ fe2, fe2 = fitErr tl now := ⟨_, rfl⟩
            rw [← hfe2] at t5 ⊢
            have G1 := G.call hd1
            clear hfe2 G hd1 c0 c1 q0 q1
            have c0 := G1.c0
            have c1 := G1.c1
            have q0 := (G1.below.cell (p := ⟨bs, 0, none⟩) z6).trans sa6
            have q1 := (G1.below.cell (p := ⟨bs, 1, none⟩) z6).trans sb6
            go_wp2_with fail
            refine (schLift v1 id tid _ c _ tc _ vc A tA vA l tl rv (G1.old hr6) G1.rt (G1.old hv6) (by omega) (by omega)).mono ?_
            rintro e v2 ⟨vd, rfl, hod, hd⟩
            rw [HL1.out] at hod
            obtain ⟨dA, dc, rfl, hrd⟩ := Rd.of_own hod
            have G2 := G1.call hd
            clear hod hd G1 c0 c1 q0 q1
            go_wp2_with fail
            refine (lawAlike v2 _ nc _ dc nA dA now G2.rn hrd (by rw [HNOW.out]; omega)).mono ?_
            rintro e v3 ⟨rfl, hd⟩
            have G3 := G2.call hd
            clear hd G2 hrd
            have c0 := G3.c0
            have c1 := G3.c1
            have q0 := (G3.below.cell (p := ⟨bs, 0, none⟩) z6).trans sa6
            have q1 := (G3.below.cell (p := ⟨bs, 1, none⟩) z6).trans sb6
            go_wp2_with fail
            refine (schLift v3 id id _ c _ c _ vc A A vA l l rv (G3.old hr6) (G3.old hr6) (G3.old hv6) (by omega) (by omega)).mono ?_
            rintro e v4 ⟨vd, rfl, hod, hd⟩
            rw [HL2.out] at hod
            obtain ⟨dA, dc, rfl, hrd⟩ := Rd.of_own hod
            have G4 := G3.call hd
            clear hod hd G3 c0 c1 q0 q1
            go_wp2_with fail
            refine (lawAlike v4 _ dc _ vc dA vA rv hrd (G4.old hv6) (by omega)).mono ?_
            rintro e v5 ⟨rfl, hd⟩
            have G5 := G4.call hd
            clear hd G4 hrd
            have c0 := G5.c0
            have c1 := G5.c1
            have q0 := (G5.below.cell (p := ⟨bs, 0, none⟩) z6).trans sa6
            have q1 := (G5.below.cell (p := ⟨bs, 1, none⟩) z6).trans sb6
            go_wp2_with fail
            refine (schLift v5 tid id _ tc _ c _ nc tA A nA tl l now G5.rt (G5.old hr6) G5.rn (by omega) (by omega)).mono ?_
            rintro e v6 ⟨vd, rfl, hod, hd⟩
            rw [HL3.out] at hod
            obtain ⟨dA, dc, rfl, hrd⟩ := Rd.of_own hod
            have G6 := G5.call hd
            clear hod hd G5 c0 c1 q0 q1
            go_wp2_with fail
            refine (lawAlike v6 _ dc _ vc dA vA rv hrd (G6.old hv6) (by omega)).mono ?_
            rintro e v7 ⟨rfl, hd⟩
            have G7 := G6.call hd
            clear hd G6 hrd
            go_wp2_with fail
            go_ret
            exact ⟨rfl, hB6.trans (G7.below.mono hBt)⟩
        · -- THE END
          have t2 : decide ((k : Int) < 12) = false := decide_eq_false (by omega)
          have hall := check_all G.chk
          rw [G.tl_] at hall
          have hF : fitErr tl now = 0 := by rw [G.tl_, G.now_]; exact HON.out ext hall
          have hL1 : liftRow l tl rv = now := by rw [G.tl_, G.now_]; exact lift_on hall rv HRL.out
          have hL2 : liftRow l l rv = rv := lift_id (check_all HCK.out) rv HRL.out
          have hL3 : liftRow tl l now = rv := by rw [G.tl_, G.now_]; exact lift_back hall rv _ HRL.out (by simp)
          have t5 : ((fitErr tl now : Int) == 0) = true := by rw [hF]; rfl
          have HL1 := hide hL1
          have HL2 := hide hL2
          have HL3 := hide hL3
          clear hall hF hL1 hL2 hL3
          have c0 := G.c0
          have c1 := G.c1
          have q0 := (G.below.cell (p := ⟨bs, 0, none⟩) z6).trans sa6
          have q1 := (G.below.cell (p := ⟨bs, 1, none⟩) z6).trans sb6
          go_wp2_with fail
          refine (schFit wr tid _ tc tA tl G.rt _ nc nA now G.rn).mono ?_
          rintro e v1 ⟨rfl, hd1⟩
          obtain ⟨fe2, hfe2⟩ : ∃ fe2, fe2 = fitErr tl now := ⟨_, rfl⟩
          rw [← hfe2] at t5 ⊢
          have G1 := G.call hd1
          clear hfe2 G hd1 c0 c1 q0 q1
          have c0 := G1.c0
          have c1 := G1.c1
          have q0 := (G1.below.cell (p := ⟨bs, 0, none⟩) z6).trans sa6
          have q1 := (G1.below.cell (p := ⟨bs, 1, none⟩) z6).trans sb6
          go_wp2_with fail
          refine (schLift v1 id tid _ c _ tc _ vc A tA vA l tl rv (G1.old hr6) G1.rt (G1.old hv6) (by omega) (by omega)).mono ?_
          rintro e v2 ⟨vd, rfl, hod, hd⟩
          rw [HL1.out] at hod
          obtain ⟨dA, dc, rfl, hrd⟩ := Rd.of_own hod
          have G2 := G1.call hd
          clear hod hd G1 c0 c1 q0 q1
          go_wp2_with fail
          refine (lawAlike v2 _ nc _ dc nA dA now G2.rn hrd (by rw [HNOW.out]; omega)).mono ?_
          rintro e v3 ⟨rfl, hd⟩
          have G3 := G2.call hd
          clear hd G2 hrd
          have c0 := G3.c0
          have c1 := G3.c1
          have q0 := (G3.below.cell (p := ⟨bs, 0, none⟩) z6).trans sa6
          have q1 := (G3.below.cell (p := ⟨bs, 1, none⟩) z6).trans sb6
          go_wp2_with fail
          refine (schLift v3 id id _ c _ c _ vc A A vA l l rv (G3.old hr6) (G3.old hr6) (G3.old hv6) (by omega) (by omega)).mono ?_
          rintro e v4 ⟨vd, rfl, hod, hd⟩
          rw [HL2.out] at hod
          obtain ⟨dA, dc, rfl, hrd⟩ := Rd.of_own hod
          have G4 := G3.call hd
          clear hod hd G3 c0 c1 q0 q1
          go_wp2_with fail
          refine (lawAlike v4 _ dc _ vc dA vA rv hrd (G4.old hv6) (by omega)).mono ?_
          rintro e v5 ⟨rfl, hd⟩
          have G5 := G4.call hd
          clear hd G4 hrd
          have c0 := G5.c0
          have c1 := G5.c1
          have q0 := (G5.below.cell (p := ⟨bs, 0, none⟩) z6).trans sa6
          have q1 := (G5.below.cell (p := ⟨bs, 1, none⟩) z6).trans sb6
          go_wp2_with fail
          refine (schLift v5 tid id _ tc _ c _ nc tA A nA tl l now G5.rt (G5.old hr6) G5.rn (by omega) (by omega)).mono ?_
          rintro e v6 ⟨vd, rfl, hod, hd⟩
          rw [HL3.out] at hod
          obtain ⟨dA, dc, rfl, hrd⟩ := Rd.of_own hod
          have G6 := G5.call hd
          clear hod hd G5 c0 c1 q0 q1
          go_wp2_with fail
          refine (lawAlike v6 _ dc _ vc dA vA rv hrd (G6.old hv6) (by omega)).mono ?_
          rintro e v7 ⟨rfl, hd⟩
          have G7 := G6.call hd
          clear hd G6 hrd
          go_wp2_with fail
          go_ret
          exact ⟨rfl, hB6.trans (G7.below.mono hBt)⟩
      · -- THE END
        have hall := check_all G.chk
        rw [G.tl_] at hall
        have hF : fitErr tl now = 0 := by rw [G.tl_, G.now_]; exact HON.out ext hall
        have hL1 : liftRow l tl rv = now := by rw [G.tl_, G.now_]; exact lift_on hall rv HRL.out
        have hL2 : liftRow l l rv = rv := lift_id (check_all HCK.out) rv HRL.out
        have hL3 : liftRow tl l now = rv := by rw [G.tl_, G.now_]; exact lift_back hall rv _ HRL.out (by simp)
        have t5 : ((fitErr tl now : Int) == 0) = true := by rw [hF]; rfl
        have HL1 := hide hL1
        have HL2 := hide hL2
        have HL3 := hide hL3
        clear hall hF hL1 hL2 hL3
        have c0 := G.c0
        have c1 := G.c1
        have q0 := (G.below.cell (p := ⟨bs, 0, none⟩) z6).trans sa6
        have q1 := (G.below.cell (p := ⟨bs, 1, none⟩) z6).trans sb6
        go_wp2_with fail
        refine (schFit wr tid _ tc tA tl G.rt _ nc nA now G.rn).mono ?_
        rintro e v1 ⟨rfl, hd1⟩
        obtain ⟨fe2, hfe2⟩ : ∃ fe2, fe2 = fitErr tl now := ⟨_, rfl⟩
        rw [← hfe2] at t5 ⊢
        have G1 := G.call hd1
        clear hfe2 G hd1 c0 c1 q0 q1
        have c0 := G1.c0
        have c1 := G1.c1
        have q0 := (G1.below.cell (p := ⟨bs, 0, none⟩) z6).trans sa6
        have q1 := (G1.below.cell (p := ⟨bs, 1, none⟩) z6).trans sb6
        go_wp2_with fail
        refine (schLift v1 id tid _ c _ tc _ vc A tA vA l tl rv (G1.old hr6) G1.rt (G1.old hv6) (by omega) (by omega)).mono ?_
        rintro e v2 ⟨vd, rfl, hod, hd⟩
        rw [HL1.out] at hod
        obtain ⟨dA, dc, rfl, hrd⟩ := Rd.of_own hod
        have G2 := G1.call hd
        clear hod hd G1 c0 c1 q0 q1
        go_wp2_with fail
        refine (lawAlike v2 _ nc _ dc nA dA now G2.rn hrd (by rw [HNOW.out]; omega)).mono ?_
        rintro e v3 ⟨rfl, hd⟩
        have G3 := G2.call hd
        clear hd G2 hrd
        have c0 := G3.c0
        have c1 := G3.c1
        have q0 := (G3.below.cell (p := ⟨bs, 0, none⟩) z6).trans sa6
        have q1 := (G3.below.cell (p := ⟨bs, 1, none⟩) z6).trans sb6
        go_wp2_with fail
        refine (schLift v3 id id _ c _ c _ vc A A vA l l rv (G3.old hr6) (G3.old hr6) (G3.old hv6) (by omega) (by omega)).mono ?_
        rintro e v4 ⟨vd, rfl, hod, hd⟩
        rw [HL2.out] at hod
        obtain ⟨dA, dc, rfl, hrd⟩ := Rd.of_own hod
        have G4 := G3.call hd
        clear hod hd G3 c0 c1 q0 q1
        go_wp2_with fail
        refine (lawAlike v4 _ dc _ vc dA vA rv hrd (G4.old hv6) (by omega)).mono ?_
        rintro e v5 ⟨rfl, hd⟩
        have G5 := G4.call hd
        clear hd G4 hrd
        have c0 := G5.c0
        have c1 := G5.c1
        have q0 := (G5.below.cell (p := ⟨bs, 0, none⟩) z6).trans sa6
        have q1 := (G5.below.cell (p := ⟨bs, 1, none⟩) z6).trans sb6
        go_wp2_with fail
        refine (schLift v5 tid id _ tc _ c _ nc tA A nA tl l now G5.rt (G5.old hr6) G5.rn (by omega) (by omega)).mono ?_
        rintro e v6 ⟨vd, rfl, hod, hd⟩
        rw [HL3.out] at hod
        obtain ⟨dA, dc, rfl, hrd⟩ := Rd.of_own hod
        have G6 := G5.call hd
        clear hod hd G5 c0 c1 q0 q1
        go_wp2_with fail
        refine (lawAlike v6 _ dc _ vc dA vA rv hrd (G6.old hv6) (by omega)).mono ?_
        rintro e v7 ⟨rfl, hd⟩
        have G7 := G6.call hd
        clear hd G6 hrd
        go_wp2_with fail
        go_ret
        exact ⟨rfl, hB6.trans (G7.below.mono hBt)⟩

set_option maxRecDepth 100000 in
theorem lifted (os : Os) (started : os.Started) (H : Type) (enc : TypeId × Value → H) :
    ReturnsInHanded {} Try.checked os 6 .any (Rows.schemaGrowsSpec.pre6 enc Try.prog Try.f6 Rows.schemaGrowsRow.domain false) (Rows.schemaGrowsSpec.post enc Try.prog Try.f6 false true false false) := by
  refine returnsInHanded_of_change (C := Try.checked) own started (by kernel_rfl) Try.func6
    (ChangeSpec.witness6 (enc := enc) (C := Try.checked) false ⟨#[], #[.agg #[.int .u32 0, .slice none 0 0], .slice none 0 0, .slice none 0 0, .slice none 0 0], []⟩ 8 (by kernel_rfl) (by kernel_rfl) (by kernel_rfl) (by kernel_rfl)) ?_
  intro W base args ds gs before hval0 hW hcnd _
  have hval : ∀ (j : Nat) t v, Try.f6.params[j]? = some t → args[j]? = some v → Value.okWide Try.prog W .any base t v := hval0
  have hW' := hW
  obtain ⟨p, q, hA0, hV, rfl, hfz, hnd⟩ := hW
  have hA : DataW.TrodAll enc Try.prog W 0 (fun _ => true) true Try.f6.params.toList args.toList ds p := hA0
  rw [Try.params6] at hA hval
  obtain ⟨v0, vs0, d0, ds0, p0, q0, hargs, rfl, rfl, h0, r0⟩ := trodAll_cons hA
  obtain ⟨v1, vs1, d1, ds1, p1, q1, rfl, rfl, rfl, h1, r1⟩ := trodAll_cons r0
  obtain ⟨v2, vs2, d2, ds2, p2, q2, rfl, rfl, rfl, h2, r2⟩ := trodAll_cons r1
  obtain ⟨v3, vs3, d3, ds3, p3, q3, rfl, rfl, rfl, h3, r3⟩ := trodAll_cons r2
  obtain ⟨rfl, rfl, rfl⟩ := trodAll_nil r3
  obtain rfl : args = #[v0, v1, v2, v3] := by cases args; simp_all
  obtain ⟨rfl, rfl⟩ := trodVars_none hV
  have k0 := h0
  have lt0 : ∀ x ∈ p0, x.block < W.heap.size := by obtain ⟨m, hm⟩ := k0; exact DataW.trod_lt m _ _ _ hm
  have k1 := h1
  have lt1 : ∀ x ∈ p1, x.block < W.heap.size := by obtain ⟨m, hm⟩ := k1; exact DataW.trod_lt m _ _ _ hm
  have k2 := h2
  have lt2 : ∀ x ∈ p2, x.block < W.heap.size := by obtain ⟨m, hm⟩ := k2; exact DataW.trod_lt m _ _ _ hm
  have k3 := h3
  have lt3 : ∀ x ∈ p3, x.block < W.heap.size := by obtain ⟨m, hm⟩ := k3; exact DataW.trod_lt m _ _ _ hm
  obtain ⟨id0, A0, n0, c0, l0, rfl, w0⟩ := frame_schema (hval 0 25 v0 rfl rfl) h0
  obtain ⟨A1, n1, c1, l1, rfl, w1⟩ := frame_strs (hval 1 53 v1 rfl rfl) h1
  obtain ⟨A2, n2, c2, l2, rfl, w2, hr2⟩ := frame_bytes Try.underlying54 Try.underlying5 (by kernel_rfl) (hval 2 54 v2 rfl rfl) h2
  obtain ⟨A3, n3, c3, l3, rfl, w3⟩ := frame_cells (hval 3 38 v3 rfl rfl) h3
  clear hA0 hval0
  refine (walk W id0 A0 n0 c0 l0 w0 A1 n1 c1 l1 w1 A2 n2 c2 l2 w2 A3 n3 c3 l3 w3).mono fun e W' ⟨he, bel⟩ => ?_
  subst he
  exact ⟨_, rfl, _, _, _, [], _, [], hW', trodAll_mk1 (shut_bool Try.underlying4 _), (trodAll_cons_mk (Below.trod laidOut (by kernel_rfl) (of_decide_eq_true (by kernel_rfl)) k0 bel lt0) (trodAll_cons_mk (Below.trod laidOut (by kernel_rfl) (of_decide_eq_true (by kernel_rfl)) k1 bel lt1) (trodAll_cons_mk (Below.trod laidOut (by kernel_rfl) (of_decide_eq_true (by kernel_rfl)) k2 bel lt2) (trodAll_cons_mk (Below.trod laidOut (by kernel_rfl) (of_decide_eq_true (by kernel_rfl)) k3 bel lt3) trodAll_mk0)))), rfl, bel.frame _, fun h => by cases h⟩

theorem over : Rows.schemaGrowsRow.holds Try.pinned (OpenSpec.ofChange Rows.schemaGrowsSpec) :=
  OpenClaim.holds_of_wide 6 Try.f6 rfl rfl rfl rfl rfl rfl rfl ⟨rfl, rfl, rfl, rfl, rfl⟩ rfl rfl rfl rfl rfl (by kernel_rfl) Try.func6 (by kernel_rfl)
    (of_decide_eq_true (by kernel_rfl)) (by unfold Func.isWrapper; first | (rw [if_pos (by decide +kernel)]; kernel_rfl) | (rw [if_neg (by decide +kernel)]; exact ⟨rfl, rfl⟩))
    (fun os started H enc _ => lifted os started H enc)

theorem proved : Rows.SchemaGrowsSaid := over
#print axioms proved
end Go.Proofs.Ytlccpchlclpnaaa.schemaGrows
