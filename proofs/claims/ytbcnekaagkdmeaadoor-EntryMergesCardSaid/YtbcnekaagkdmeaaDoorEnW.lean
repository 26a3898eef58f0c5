/- THE WALKS of entry's writer: num, text, cell, stat, entry. No statement of the seat is proved here; no condition but sizes. -/
import Derived.Test.YtbcnekaagkdmeaaDoorEnB
namespace Go.Proofs.YtbcnekaagkdmeaaDoor
open Go.RowKit

theorem lit_own {w : World} {B g n c : Nat} {p : List UInt8} (h : w.ownsRow B 5 1 (.slice (some ⟨g, 0, none⟩) n c) p.length (bytesV p)) : ∀ j u, (bytesV p)[j]? = some u → w.cell? ((⟨g, 0, none⟩ : Addr).add j) = some u := fun j u hj => by
  have hjl : j < (bytesV p).length := (List.getElem?_eq_some_iff.1 hj).1
  rw [bytesV_length] at hjl
  rw [Addr.add_lit, Nat.zero_add]
  obtain ⟨A, c', q, hr⟩ := Rd.of_own h
  injection q with q1 q2 q3
  obtain ⟨b, off, e, hb, hc⟩ := hr.at_ (by omega)
  rw [← q1] at e
  injection e with e
  injection e with e1 e2
  subst e1 e2
  have := hc j u hj
  rw [Nat.zero_add] at this
  exact this
set_option maxRecDepth 100000 in
set_option maxHeartbeats 1000000 in
theorem entWNum (w : World) (b B : Nat) (A : Option Addr) (c : Nat) (l : List UInt8) (h : WB w b B A c l) (n : Int) (h0 : 0 ≤ n) (h1 : n ≤ 18446744073709551615) (hl : l.length ≤ 900000) :
    Calls Tryd.prog 21 #[.pointer (some ⟨b, 0, none⟩), .int .u64 n] w (WEnd w b B (l ++ Var.put n.toNat)) := by
  have hp := Var.put_le10 (n := n.toNat) (by omega)
  have hpos := put_pos n.toNat
  have c0 := h.c0
  obtain ⟨ti, hti, hti1, hti2, hti3⟩ := info_parts tyBytes.inf
  obtain ⟨p, hpe⟩ : ∃ p, Var.put n.toNat = p := ⟨_, rfl⟩
  have HV : ∀ w, Calls Tryd.prog 38 #[.int .u64 n] w (RetBytes w p) := fun w => by rw [← hpe]; exact varPut n w h0 h1
  rw [hpe] at hp hpos ⊢
  clear hpe h0 h1
  go_enter Tryd.func21, Tryd.ntmps21
  go_upto_region 0 with fail
  refine wp_region_held_drew (S := fun _ => True) (by kernel_rfl) ?_ (fun hHeld => ?_)
  · trivial
  refine wpAnyH_take (i := 0) (v := ?_) rfl (by kernel_rfl) (by kernel_rfl) (by kernel_rfl) (fun _ _ _ h => h) (Or.inl ⟨by rfl, ?_⟩) hHeld ?_
  rotate_left 1
  · (intro w hSw; go_simp; first | done | with_reducible rfl)
  (try simp only [Act.put, List.setIfInBounds_toArray, List.set_cons_zero, List.set_cons_succ])
  refine wpAnyH_take (i := 1) (v := ?_) rfl (by kernel_rfl) (by kernel_rfl) (by kernel_rfl) (fun _ _ _ h => h) (Or.inl ⟨by rfl, ?_⟩) hHeld ?_
  rotate_left 1
  · (intro w hSw; go_simp; first | done | with_reducible rfl)
  (try simp only [Act.put, List.setIfInBounds_toArray, List.set_cons_zero, List.set_cons_succ])
  refine wpAnyH_take (i := 2) (v := ?_) rfl (by kernel_rfl) (by kernel_rfl) (by kernel_rfl) (fun _ _ _ h => h) (Or.inl ⟨by rfl, ?_⟩) hHeld ?_
  rotate_left 1
  · (intro w hSw; go_simp; first | done | with_reducible rfl)
  (try simp only [Act.put, List.setIfInBounds_toArray, List.set_cons_zero, List.set_cons_succ])
  refine wpAnyH_take (i := 3) (v := ?_) rfl (by kernel_rfl) (by kernel_rfl) (by kernel_rfl) (fun _ _ _ h => h) (Or.inl ⟨by rfl, ?_⟩) hHeld ?_
  rotate_left 1
  · (intro w hSw; go_simp; first | done | with_reducible rfl)
  (try simp only [Act.put, List.setIfInBounds_toArray, List.set_cons_zero, List.set_cons_succ])
  refine wpAnyH_take (i := 5) (v := ?_) rfl (by kernel_rfl) (by kernel_rfl) (by kernel_rfl) (fun _ _ _ h => h) (Or.inl ⟨by rfl, ?_⟩) hHeld ?_
  rotate_left 1
  · (intro w hSw; go_simp; first | done | with_reducible rfl)
  (try simp only [Act.put, List.setIfInBounds_toArray, List.set_cons_zero, List.set_cons_succ])
  refine wpAnyH_ready (rs := [4, 6]) (by kernel_rfl) (by simp) ?_
  refine AllReadyH.cons rfl (fun K hK => ?_) (AllReadyH.cons rfl (fun K hK => ?_) (AllReadyH.nil))
  · go_simp
    refine hK.out _ _ trivial (fun hHeld => ?_)
    clear hK K
    (try simp only [Act.put, List.setIfInBounds_toArray, List.set_cons_zero, List.set_cons_succ])
    refine wpAnyH_ready (rs := [6]) (by kernel_rfl) (by simp) ?_
    refine AllReadyH.cons rfl (fun K hK => ?_) (AllReadyH.nil)
    · go_simp
      go_at_call 38
      refine (HV w.drew).mono ?_
      rintro e w1 ⟨v1, rfl, hown1, hb1⟩
      obtain ⟨g1, k1, rfl, hg1, hg2⟩ := hown1.form hpos
      have HW := hide (And.intro (h.drew.keep hb1) (And.intro ((Wz.refl b B w).drew.trans (.of hb1)) (lit_own hown1)))
      have c1 := (h.drew.keep hb1).c0
      clear hb1 hown1
      refine hK.out _ _ trivial (fun hHeld => ?_)
      clear hK K
      (try simp only [Act.put, List.setIfInBounds_toArray, List.set_cons_zero, List.set_cons_succ])
      refine wpAnyH_ready (rs := [7]) (by kernel_rfl) (by simp) ?_
      refine AllReadyH.cons rfl (fun K hK => ?_) (AllReadyH.nil)
      · refine step_append_lies _ rfl (.tmp 8) (.tmp 10) 25 rfl B 5 ti _ 1 1 Tryd.underlying25 hti hti1 hti2 hti3 tyBytes.zs (by decide) _ l.length (bytesV l) (by simp [Act.eval, Act.put]) HW.out.1.own _ p.length k1 (bytesV p) (by simp [Act.eval, Act.put]) (by rw [bytesV_length, Nat.mul_one]) HW.out.2.2 (bytesV_one _) (by omega) (by unfold maxLen <;> omega) (by omega) HW.out.1.le _ rfl ?_
        intro g cap w8 hown8 hg8 _ _
        obtain ⟨d0, d1, hG, hZ⟩ := HW.out.1.put hown8 hg8
        have HG8 := hide (And.intro hG ((HW.out.2.1).trans hZ))
        clear hown8 hg8 hG hZ
        refine hK.out _ _ trivial (fun hHeld => ?_)
        clear hK K
        (try simp only [Act.put, List.setIfInBounds_toArray, List.set_cons_zero, List.set_cons_succ])
        refine wpAnyH_take (i := 8) (v := ?_) rfl (by kernel_rfl) (by kernel_rfl) (by kernel_rfl) (fun _ _ _ h => h) (Or.inl ⟨by rfl, ?_⟩) hHeld ?_
        rotate_left 1
        · (intro w hSw; go_simp; first | done | with_reducible rfl)
        (try simp only [Act.put, List.setIfInBounds_toArray, List.set_cons_zero, List.set_cons_succ])
        refine wpAnyH_take (i := 9) (v := ?_) rfl (by kernel_rfl) (by kernel_rfl) (by kernel_rfl) (fun _ _ _ h => h) (Or.inl ⟨by rfl, ?_⟩) hHeld ?_
        rotate_left 1
        · (intro w hSw; go_simp; first | done | with_reducible rfl)
        (try simp only [Act.put, List.setIfInBounds_toArray, List.set_cons_zero, List.set_cons_succ])
        refine wpAnyH_ready (rs := [10]) (by kernel_rfl) (by simp) ?_
        refine AllReadyH.cons rfl (fun K hK => ?_) (AllReadyH.nil)
        · go_simp
          refine hK.out _ _ trivial (fun hHeld => ?_)
          clear hK K
          (try simp only [Act.put, List.setIfInBounds_toArray, List.set_cons_zero, List.set_cons_succ])
          refine wpAnyH_done (by kernel_rfl) ?_ _
          go_wp2_with fail
          go_end0
          exact ⟨rfl, ⟨_, _, HG8.out.1⟩, HG8.out.2⟩
  · go_simp
    go_at_call 38
    refine (HV w.drew).mono ?_
    rintro e w1 ⟨v1, rfl, hown1, hb1⟩
    obtain ⟨g1, k1, rfl, hg1, hg2⟩ := hown1.form hpos
    have HW := hide (And.intro (h.drew.keep hb1) (And.intro ((Wz.refl b B w).drew.trans (.of hb1)) (lit_own hown1)))
    have c1 := (h.drew.keep hb1).c0
    clear hb1 hown1
    refine hK.out _ _ trivial (fun hHeld => ?_)
    clear hK K
    (try simp only [Act.put, List.setIfInBounds_toArray, List.set_cons_zero, List.set_cons_succ])
    refine wpAnyH_ready (rs := [4]) (by kernel_rfl) (by simp) ?_
    refine AllReadyH.cons rfl (fun K hK => ?_) (AllReadyH.nil)
    · go_simp
      refine hK.out _ _ trivial (fun hHeld => ?_)
      clear hK K
      (try simp only [Act.put, List.setIfInBounds_toArray, List.set_cons_zero, List.set_cons_succ])
      refine wpAnyH_ready (rs := [7]) (by kernel_rfl) (by simp) ?_
      refine AllReadyH.cons rfl (fun K hK => ?_) (AllReadyH.nil)
      · refine step_append_lies _ rfl (.tmp 8) (.tmp 10) 25 rfl B 5 ti _ 1 1 Tryd.underlying25 hti hti1 hti2 hti3 tyBytes.zs (by decide) _ l.length (bytesV l) (by simp [Act.eval, Act.put]) HW.out.1.own _ p.length k1 (bytesV p) (by simp [Act.eval, Act.put]) (by rw [bytesV_length, Nat.mul_one]) HW.out.2.2 (bytesV_one _) (by omega) (by unfold maxLen <;> omega) (by omega) HW.out.1.le _ rfl ?_
        intro g cap w8 hown8 hg8 _ _
        obtain ⟨d0, d1, hG, hZ⟩ := HW.out.1.put hown8 hg8
        have HG8 := hide (And.intro hG ((HW.out.2.1).trans hZ))
        clear hown8 hg8 hG hZ
        refine hK.out _ _ trivial (fun hHeld => ?_)
        clear hK K
        (try simp only [Act.put, List.setIfInBounds_toArray, List.set_cons_zero, List.set_cons_succ])
        refine wpAnyH_take (i := 8) (v := ?_) rfl (by kernel_rfl) (by kernel_rfl) (by kernel_rfl) (fun _ _ _ h => h) (Or.inl ⟨by rfl, ?_⟩) hHeld ?_
        rotate_left 1
        · (intro w hSw; go_simp; first | done | with_reducible rfl)
        (try simp only [Act.put, List.setIfInBounds_toArray, List.set_cons_zero, List.set_cons_succ])
        refine wpAnyH_take (i := 9) (v := ?_) rfl (by kernel_rfl) (by kernel_rfl) (by kernel_rfl) (fun _ _ _ h => h) (Or.inl ⟨by rfl, ?_⟩) hHeld ?_
        rotate_left 1
        · (intro w hSw; go_simp; first | done | with_reducible rfl)
        (try simp only [Act.put, List.setIfInBounds_toArray, List.set_cons_zero, List.set_cons_succ])
        refine wpAnyH_ready (rs := [10]) (by kernel_rfl) (by simp) ?_
        refine AllReadyH.cons rfl (fun K hK => ?_) (AllReadyH.nil)
        · go_simp
          refine hK.out _ _ trivial (fun hHeld => ?_)
          clear hK K
          (try simp only [Act.put, List.setIfInBounds_toArray, List.set_cons_zero, List.set_cons_succ])
          refine wpAnyH_done (by kernel_rfl) ?_ _
          go_wp2_with fail
          go_end0
          exact ⟨rfl, ⟨_, _, HG8.out.1⟩, HG8.out.2⟩

/-- 'append(b, s..)' into the writer's box -/
theorem WB.puts {w : World} {b B c : Nat} {A : Option Addr} {l : List UInt8} (h : WB w b B A c l) {p : List UInt8} {w8 : World} {v : Value} (hb : Buf B (l ++ p) v w8) (hg : w.grownBy w8 (Value.slice A l.length c).ownBlock) :
    ∃ A2 c2, v = .slice A2 (l ++ p).length c2 ∧ w8.cell? ⟨b, 0, none⟩ = some (.slice A l.length c) ∧ w8.frozen? ⟨b, 0, none⟩ = false ∧ WB (w8.setCell ⟨b, 0, none⟩ (.slice A2 (l ++ p).length c2)) b B A2 c2 (l ++ p) ∧ Wz b B w (w8.setCell ⟨b, 0, none⟩ (.slice A2 (l ++ p).length c2)) := by
  obtain ⟨A2, c2, rfl⟩ := own_slice hb
  have bx := h.bx.grown h.own hg (by decide)
  have hs := hg.size
  have hle := h.le
  exact ⟨A2, c2, rfl, bx.bx.cell 0 _ rfl, bx.bx.free 0 (by simp), ⟨bx.set (j := 0) _ rfl, by simp; omega, own_setT hb bx (by decide) 0 _⟩, (Wz.grown h.own hg).set 0 _⟩
theorem wpList_bufG {ops : Array Oper} {rest : List Oper} {o : Oper} {a : Act} {Q : Exit → Act → World → Prop} {w : World} {B : Nat} {l : List UInt8} {v : Value} (hgd : o.guard = none) (s x : Operand) (ho : o.op = .call { callee := .builtin .append, args := #[s, x], argTypes := #[25, 9] }) (hs : a.eval s = v) (hb : Buf B l v w)
    (st : ByteArray) (hx : a.eval x = .string st) (hlen : l.length + st.size ≤ 1000000) (hB : B ≤ w.heap.size)
    (h : ∀ v' w', Buf B (l ++ st.data.toList) v' w' → w.grownBy w' v.ownBlock → wpList Tryd.prog ops Q rest (a.put o.dst v') w') : wpList Tryd.prog ops Q (o :: rest) a w := by
  obtain ⟨ti, hti, hti1, hti2, hti3⟩ := info_parts tyBytes.inf
  refine Go.Lib.wpList_append_own_string _ hgd s x 25 9 ho B 5 ti Tryd.underlying25 Tryd.underlying9 hti hti1 hti2 hti3 v _ _ hs hb st hx (by unfold maxLen; omega) (by omega) hB fun v' w' h1 h2 _ => h v' w' ?_ h2
  unfold Buf
  rw [List.length_append, bytesV_append]
  exact h1
set_option maxRecDepth 100000 in
set_option maxHeartbeats 1000000 in
theorem entWText (w : World) (b B : Nat) (A : Option Addr) (c : Nat) (l : List UInt8) (h : WB w b B A c l) (s : ByteArray) (hl : l.length + s.size ≤ 800000) :
    Calls Tryd.prog 39 #[.pointer (some ⟨b, 0, none⟩), .string s] w (WEnd w b B (l ++ tx s)) := by
  have e33 : IntKind.u64.wrap (s.size : Int) = (s.size : Int) := by rw [IntKind.wrap_u64]; omega
  have e34 : (s.size : Int) % 18446744073709551616 = (s.size : Int) := by omega
  have hp := Var.put_le10 (n := s.size) (by omega)
  go_enter Tryd.func39, Tryd.ntmps39
  go_wp2_with fail
  refine (entWNum w b B A c l h (s.size : Int) (by omega) (by omega) (by omega)).mono ?_
  rintro e w1 ⟨rfl, ⟨A1, c1, h1⟩, hz1⟩
  rw [Int.toNat_natCast] at h1
  have hl1 : (l ++ Var.put s.size).length = l.length + (Var.put s.size).length := List.length_append
  have c0 := h1.c0
  have hle := h1.le
  have hbuf : Buf B (l ++ Var.put s.size) (.slice A1 (l ++ Var.put s.size).length c1) w1 := h1.own
  have etx : (l ++ Var.put s.size) ++ s.data.toList = l ++ tx s := by unfold tx; rw [List.append_assoc]
  have hlz : (l ++ Var.put s.size).length + s.size ≤ 1000000 := by omega
  have HH := hide (And.intro h1 (And.intro hz1 etx))
  generalize l ++ Var.put s.size = l1 at *
  clear e33 e34 hl1 h1 hz1 etx hp h
  go_wp2_with (at_builtin; refine wpList_bufG rfl (.tmp 13) (.tmp 14) rfl rfl hbuf s rfl hlz hle ?_; intro v3 w3 hbuf3 hg3; obtain ⟨A2, c2, rfl, d0, d1, hG, hZ⟩ := HH.out.1.puts hbuf3 hg3; have HG := hide (And.intro hG (HH.out.2.1.trans hZ)); clear hbuf3 hg3 hG hZ c0)
  go_end0
  have e9 : (l1 ++ s.data.toList).length = l1.length + s.size := by rw [List.length_append, Array.length_toList]; rfl
  have G := HG.out
  rw [e9, HH.out.2.2] at G
  exact ⟨rfl, ⟨_, _, G.1⟩, G.2⟩
/-- what stands behind the writer's box -/
theorem WEnd.more {w w1 w' : World} {b B : Nat} {l : List UInt8} {e : Ending} (h : WEnd w1 b B l e w') (hz : Wz b B w w1) : WEnd w b B l e w' := ⟨h.1, h.2.1, hz.trans h.2.2⟩
set_option maxRecDepth 100000 in
set_option maxHeartbeats 2000000 in
theorem entWCell (w : World) (b B : Nat) (A : Option Addr) (c : Nat) (l : List UInt8) (h : WB w b B A c l) (x : Ce) (hx : bndOk x = true) (hl : l.length ≤ 700000) :
    Calls Tryd.prog 51 #[.pointer (some ⟨b, 0, none⟩), .agg #[.int .u8 (x.kind.toNat : Int), .int .i64 x.n.toInt, .string x.s]] w (WEnd w b B (l ++ cellB x)) := by
  obtain ⟨q1, q2, q3, q4, q5, q6⟩ := bnd_has hx
  obtain ⟨k, hk⟩ : ∃ k, x.kind.toNat = k := ⟨_, rfl⟩
  obtain ⟨n, hn⟩ : ∃ n, x.n.toInt = n := ⟨_, rfl⟩
  obtain ⟨s, hs⟩ : ∃ s, x.s = s := ⟨_, rfl⟩
  have hn0 : -9223372036854775808 ≤ n := by rw [← hn]; exact Int64.le_toInt x.n
  have hn1 : n ≤ 9223372036854775807 := by have := Int64.toInt_lt x.n; omega
  have hB : cellB x = if k = 1 then Var.put (zig n) else if k = 2 then Var.put n.toNat else tx s := by unfold cellB; rw [hk, hn, hs]
  rw [hk] at q1 q2 q6
  rw [hs] at q3
  rw [hn] at q6
  rw [hB, hk, hn, hs]
  clear hB hx hk hn hs q4 q5
  have x0 := boxT_new w #[.int .u8 (k : Int), .int .i64 n, .string s] 51
  have hb1 := (Below.refl w.heap.size w).alloc (Nat.le_refl _) (.cells #[.int .u8 (k : Int), .int .i64 n, .string s] 51)
  have h1 := h.keep hb1
  have hz1 := (Wz.refl b B w).trans (.of hb1)
  rcases (show k = 1 ∨ k = 2 ∨ k = 3 by omega) with rfl | rfl | rfl
  · have hz := hide (zig_lt hn0 hn1)
    have hp := Var.put_le10 (n := zig n) hz.out
    have hpos := put_pos (zig n)
    rw [if_pos rfl]
    obtain ⟨p, hpe⟩ : ∃ p, Var.put (zig n) = p := ⟨_, rfl⟩
    have HV : ∀ w, Calls Tryd.prog 57 #[.int .i64 n] w (RetBytes w p) := fun w => by rw [← hpe]; exact varPutInt n w hn0 hn1
    rw [hpe] at hp hpos ⊢
    obtain ⟨ti, hti, hti1, hti2, hti3⟩ := info_parts tyBytes.inf
    clear hpe hn0 hn1 q6 hz
    go_enter Tryd.func51, Tryd.ntmps51
    go_upto_region 4 with fail
    generalize w.alloc (.cells #[.int .u8 ((1 : Nat) : Int), .int .i64 n, .string s] 51) = w0 at *
    generalize w.heap.size = bs at *
    have c0 := h1.c0
    have k0 := x0.bx.cell 1 _ rfl
    refine wp_region_held_drew (S := fun _ => True) (by kernel_rfl) ?_ (fun hHeld => ?_)
    · trivial
    refine wpAnyH_take (i := 0) (v := ?_) rfl (by kernel_rfl) (by kernel_rfl) (by kernel_rfl) (fun _ _ _ h => h) (Or.inl ⟨by rfl, ?_⟩) hHeld ?_
    rotate_left 1
    · (intro w hSw; go_simp; first | done | with_reducible rfl)
    (try simp only [Act.put, List.setIfInBounds_toArray, List.set_cons_zero, List.set_cons_succ])
    refine wpAnyH_take (i := 1) (v := ?_) rfl (by kernel_rfl) (by kernel_rfl) (by kernel_rfl) (fun _ _ _ h => h) (Or.inl ⟨by rfl, ?_⟩) hHeld ?_
    rotate_left 1
    · (intro w hSw; go_simp; first | done | with_reducible rfl)
    (try simp only [Act.put, List.setIfInBounds_toArray, List.set_cons_zero, List.set_cons_succ])
    refine wpAnyH_take (i := 2) (v := ?_) rfl (by kernel_rfl) (by kernel_rfl) (by kernel_rfl) (fun _ _ _ h => h) (Or.inl ⟨by rfl, ?_⟩) hHeld ?_
    rotate_left 1
    · (intro w hSw; go_simp; first | done | with_reducible rfl)
    (try simp only [Act.put, List.setIfInBounds_toArray, List.set_cons_zero, List.set_cons_succ])
    refine wpAnyH_take (i := 3) (v := ?_) rfl (by kernel_rfl) (by kernel_rfl) (by kernel_rfl) (fun _ _ _ h => h) (Or.inl ⟨by rfl, ?_⟩) hHeld ?_
    rotate_left 1
    · (intro w hSw; go_simp; first | done | with_reducible rfl)
    (try simp only [Act.put, List.setIfInBounds_toArray, List.set_cons_zero, List.set_cons_succ])
    refine wpAnyH_take (i := 5) (v := ?_) rfl (by kernel_rfl) (by kernel_rfl) (by kernel_rfl) (fun _ _ _ h => h) (Or.inl ⟨by rfl, ?_⟩) hHeld ?_
    rotate_left 1
    · (intro w hSw; go_simp; first | done | with_reducible rfl)
    (try simp only [Act.put, List.setIfInBounds_toArray, List.set_cons_zero, List.set_cons_succ])
    refine wpAnyH_ready (rs := [4, 6]) (by kernel_rfl) (by simp) ?_
    refine AllReadyH.cons rfl (fun K hK => ?_) (AllReadyH.cons rfl (fun K hK => ?_) (AllReadyH.nil))
    · go_simp
      refine hK.out _ _ trivial (fun hHeld => ?_)
      clear hK K
      (try simp only [Act.put, List.setIfInBounds_toArray, List.set_cons_zero, List.set_cons_succ])
      refine wpAnyH_ready (rs := [6]) (by kernel_rfl) (by simp) ?_
      refine AllReadyH.cons rfl (fun K hK => ?_) (AllReadyH.nil)
      · go_simp
        refine hK.out _ _ trivial (fun hHeld => ?_)
        clear hK K
        (try simp only [Act.put, List.setIfInBounds_toArray, List.set_cons_zero, List.set_cons_succ])
        refine wpAnyH_ready (rs := [7]) (by kernel_rfl) (by simp) ?_
        refine AllReadyH.cons rfl (fun K hK => ?_) (AllReadyH.nil)
        · go_simp
          go_at_call 57
          refine (HV w0.drew).mono ?_
          rintro e w1 ⟨v1, rfl, hown1, hb1⟩
          obtain ⟨g1, k1, rfl, hg1, hg2⟩ := hown1.form hpos
          have HW := hide (And.intro (h1.drew.keep hb1) (And.intro ((Wz.refl b B w0).drew.trans (.of hb1)) (lit_own hown1)))
          have c1 := (h1.drew.keep hb1).c0
          clear hb1 hown1
          refine hK.out _ _ trivial (fun hHeld => ?_)
          clear hK K
          (try simp only [Act.put, List.setIfInBounds_toArray, List.set_cons_zero, List.set_cons_succ])
          refine wpAnyH_ready (rs := [8]) (by kernel_rfl) (by simp) ?_
          refine AllReadyH.cons rfl (fun K hK => ?_) (AllReadyH.nil)
          · refine step_append_lies _ rfl (.tmp 16) (.tmp 19) 25 rfl B 5 ti _ 1 1 Tryd.underlying25 hti hti1 hti2 hti3 tyBytes.zs (by decide) _ l.length (bytesV l) (by simp [Act.eval, Act.put]) HW.out.1.own _ p.length k1 (bytesV p) (by simp [Act.eval, Act.put]) (by rw [bytesV_length, Nat.mul_one]) HW.out.2.2 (bytesV_one _) (by omega) (by unfold maxLen <;> omega) (by omega) HW.out.1.le _ rfl ?_
            intro g cap w8 hown8 hg8 _ _
            obtain ⟨d0, d1, hG, hZ⟩ := HW.out.1.put hown8 hg8
            have HG8 := hide (And.intro hG ((HW.out.2.1).trans hZ))
            clear hown8 hg8 hG hZ
            refine hK.out _ _ trivial (fun hHeld => ?_)
            clear hK K
            (try simp only [Act.put, List.setIfInBounds_toArray, List.set_cons_zero, List.set_cons_succ])
            refine wpAnyH_take (i := 9) (v := ?_) rfl (by kernel_rfl) (by kernel_rfl) (by kernel_rfl) (fun _ _ _ h => h) (Or.inl ⟨by rfl, ?_⟩) hHeld ?_
            rotate_left 1
            · (intro w hSw; go_simp; first | done | with_reducible rfl)
            (try simp only [Act.put, List.setIfInBounds_toArray, List.set_cons_zero, List.set_cons_succ])
            refine wpAnyH_take (i := 10) (v := ?_) rfl (by kernel_rfl) (by kernel_rfl) (by kernel_rfl) (fun _ _ _ h => h) (Or.inl ⟨by rfl, ?_⟩) hHeld ?_
            rotate_left 1
            · (intro w hSw; go_simp; first | done | with_reducible rfl)
            (try simp only [Act.put, List.setIfInBounds_toArray, List.set_cons_zero, List.set_cons_succ])
            refine wpAnyH_ready (rs := [11]) (by kernel_rfl) (by simp) ?_
            refine AllReadyH.cons rfl (fun K hK => ?_) (AllReadyH.nil)
            · go_simp
              refine hK.out _ _ trivial (fun hHeld => ?_)
              clear hK K
              (try simp only [Act.put, List.setIfInBounds_toArray, List.set_cons_zero, List.set_cons_succ])
              refine wpAnyH_done (by kernel_rfl) ?_ _
              go_wp2_with fail
              go_end0
              exact ⟨rfl, ⟨_, _, HG8.out.1⟩, hz1.trans HG8.out.2⟩
    · go_simp
      refine hK.out _ _ trivial (fun hHeld => ?_)
      clear hK K
      (try simp only [Act.put, List.setIfInBounds_toArray, List.set_cons_zero, List.set_cons_succ])
      refine wpAnyH_ready (rs := [4, 7]) (by kernel_rfl) (by simp) ?_
      refine AllReadyH.cons rfl (fun K hK => ?_) (AllReadyH.cons rfl (fun K hK => ?_) (AllReadyH.nil))
      · go_simp
        refine hK.out _ _ trivial (fun hHeld => ?_)
        clear hK K
        (try simp only [Act.put, List.setIfInBounds_toArray, List.set_cons_zero, List.set_cons_succ])
        refine wpAnyH_ready (rs := [7]) (by kernel_rfl) (by simp) ?_
        refine AllReadyH.cons rfl (fun K hK => ?_) (AllReadyH.nil)
        · go_simp
          go_at_call 57
          refine (HV w0.drew).mono ?_
          rintro e w1 ⟨v1, rfl, hown1, hb1⟩
          obtain ⟨g1, k1, rfl, hg1, hg2⟩ := hown1.form hpos
          have HW := hide (And.intro (h1.drew.keep hb1) (And.intro ((Wz.refl b B w0).drew.trans (.of hb1)) (lit_own hown1)))
          have c1 := (h1.drew.keep hb1).c0
          clear hb1 hown1
          refine hK.out _ _ trivial (fun hHeld => ?_)
          clear hK K
          (try simp only [Act.put, List.setIfInBounds_toArray, List.set_cons_zero, List.set_cons_succ])
          refine wpAnyH_ready (rs := [8]) (by kernel_rfl) (by simp) ?_
          refine AllReadyH.cons rfl (fun K hK => ?_) (AllReadyH.nil)
          · refine step_append_lies _ rfl (.tmp 16) (.tmp 19) 25 rfl B 5 ti _ 1 1 Tryd.underlying25 hti hti1 hti2 hti3 tyBytes.zs (by decide) _ l.length (bytesV l) (by simp [Act.eval, Act.put]) HW.out.1.own _ p.length k1 (bytesV p) (by simp [Act.eval, Act.put]) (by rw [bytesV_length, Nat.mul_one]) HW.out.2.2 (bytesV_one _) (by omega) (by unfold maxLen <;> omega) (by omega) HW.out.1.le _ rfl ?_
            intro g cap w8 hown8 hg8 _ _
            obtain ⟨d0, d1, hG, hZ⟩ := HW.out.1.put hown8 hg8
            have HG8 := hide (And.intro hG ((HW.out.2.1).trans hZ))
            clear hown8 hg8 hG hZ
            refine hK.out _ _ trivial (fun hHeld => ?_)
            clear hK K
            (try simp only [Act.put, List.setIfInBounds_toArray, List.set_cons_zero, List.set_cons_succ])
            refine wpAnyH_take (i := 9) (v := ?_) rfl (by kernel_rfl) (by kernel_rfl) (by kernel_rfl) (fun _ _ _ h => h) (Or.inl ⟨by rfl, ?_⟩) hHeld ?_
            rotate_left 1
            · (intro w hSw; go_simp; first | done | with_reducible rfl)
            (try simp only [Act.put, List.setIfInBounds_toArray, List.set_cons_zero, List.set_cons_succ])
            refine wpAnyH_take (i := 10) (v := ?_) rfl (by kernel_rfl) (by kernel_rfl) (by kernel_rfl) (fun _ _ _ h => h) (Or.inl ⟨by rfl, ?_⟩) hHeld ?_
            rotate_left 1
            · (intro w hSw; go_simp; first | done | with_reducible rfl)
            (try simp only [Act.put, List.setIfInBounds_toArray, List.set_cons_zero, List.set_cons_succ])
            refine wpAnyH_ready (rs := [11]) (by kernel_rfl) (by simp) ?_
            refine AllReadyH.cons rfl (fun K hK => ?_) (AllReadyH.nil)
            · go_simp
              refine hK.out _ _ trivial (fun hHeld => ?_)
              clear hK K
              (try simp only [Act.put, List.setIfInBounds_toArray, List.set_cons_zero, List.set_cons_succ])
              refine wpAnyH_done (by kernel_rfl) ?_ _
              go_wp2_with fail
              go_end0
              exact ⟨rfl, ⟨_, _, HG8.out.1⟩, hz1.trans HG8.out.2⟩
      · go_simp
        go_at_call 57
        refine (HV w0.drew).mono ?_
        rintro e w1 ⟨v1, rfl, hown1, hb1⟩
        obtain ⟨g1, k1, rfl, hg1, hg2⟩ := hown1.form hpos
        have HW := hide (And.intro (h1.drew.keep hb1) (And.intro ((Wz.refl b B w0).drew.trans (.of hb1)) (lit_own hown1)))
        have c1 := (h1.drew.keep hb1).c0
        clear hb1 hown1
        refine hK.out _ _ trivial (fun hHeld => ?_)
        clear hK K
        (try simp only [Act.put, List.setIfInBounds_toArray, List.set_cons_zero, List.set_cons_succ])
        refine wpAnyH_ready (rs := [4]) (by kernel_rfl) (by simp) ?_
        refine AllReadyH.cons rfl (fun K hK => ?_) (AllReadyH.nil)
        · go_simp
          refine hK.out _ _ trivial (fun hHeld => ?_)
          clear hK K
          (try simp only [Act.put, List.setIfInBounds_toArray, List.set_cons_zero, List.set_cons_succ])
          refine wpAnyH_ready (rs := [8]) (by kernel_rfl) (by simp) ?_
          refine AllReadyH.cons rfl (fun K hK => ?_) (AllReadyH.nil)
          · refine step_append_lies _ rfl (.tmp 16) (.tmp 19) 25 rfl B 5 ti _ 1 1 Tryd.underlying25 hti hti1 hti2 hti3 tyBytes.zs (by decide) _ l.length (bytesV l) (by simp [Act.eval, Act.put]) HW.out.1.own _ p.length k1 (bytesV p) (by simp [Act.eval, Act.put]) (by rw [bytesV_length, Nat.mul_one]) HW.out.2.2 (bytesV_one _) (by omega) (by unfold maxLen <;> omega) (by omega) HW.out.1.le _ rfl ?_
            intro g cap w8 hown8 hg8 _ _
            obtain ⟨d0, d1, hG, hZ⟩ := HW.out.1.put hown8 hg8
            have HG8 := hide (And.intro hG ((HW.out.2.1).trans hZ))
            clear hown8 hg8 hG hZ
            refine hK.out _ _ trivial (fun hHeld => ?_)
            clear hK K
            (try simp only [Act.put, List.setIfInBounds_toArray, List.set_cons_zero, List.set_cons_succ])
            refine wpAnyH_take (i := 9) (v := ?_) rfl (by kernel_rfl) (by kernel_rfl) (by kernel_rfl) (fun _ _ _ h => h) (Or.inl ⟨by rfl, ?_⟩) hHeld ?_
            rotate_left 1
            · (intro w hSw; go_simp; first | done | with_reducible rfl)
            (try simp only [Act.put, List.setIfInBounds_toArray, List.set_cons_zero, List.set_cons_succ])
            refine wpAnyH_take (i := 10) (v := ?_) rfl (by kernel_rfl) (by kernel_rfl) (by kernel_rfl) (fun _ _ _ h => h) (Or.inl ⟨by rfl, ?_⟩) hHeld ?_
            rotate_left 1
            · (intro w hSw; go_simp; first | done | with_reducible rfl)
            (try simp only [Act.put, List.setIfInBounds_toArray, List.set_cons_zero, List.set_cons_succ])
            refine wpAnyH_ready (rs := [11]) (by kernel_rfl) (by simp) ?_
            refine AllReadyH.cons rfl (fun K hK => ?_) (AllReadyH.nil)
            · go_simp
              refine hK.out _ _ trivial (fun hHeld => ?_)
              clear hK K
              (try simp only [Act.put, List.setIfInBounds_toArray, List.set_cons_zero, List.set_cons_succ])
              refine wpAnyH_done (by kernel_rfl) ?_ _
              go_wp2_with fail
              go_end0
              exact ⟨rfl, ⟨_, _, HG8.out.1⟩, hz1.trans HG8.out.2⟩
  · rw [if_neg (by decide), if_pos rfl]
    have hn01 := q6 rfl
    have e33 : IntKind.u64.wrap n = n := by rw [IntKind.wrap_u64]; omega
    have e34 : n % 18446744073709551616 = n := by omega
    go_enter Tryd.func51, Tryd.ntmps51
    go_wp2_with fail
    refine (entWNum _ b B A c l h1 n (by omega) (by omega) (by omega)).mono ?_
    rintro e w2 ⟨rfl, h2, hz2⟩
    go_wp2_with fail
    go_end0
    exact ⟨rfl, h2, hz1.trans hz2⟩
  · rw [if_neg (by decide), if_neg (by decide)]
    go_enter Tryd.func51, Tryd.ntmps51
    go_wp2_with fail
    refine (entWText _ b B A c l h1 s (by omega)).mono ?_
    rintro e w2 ⟨rfl, h2, hz2⟩
    go_wp2_with fail
    go_end0
    exact ⟨rfl, h2, hz1.trans hz2⟩
theorem entWNumN (w : World) (b B : Nat) (A : Option Addr) (c : Nat) (l : List UInt8) (h : WB w b B A c l) (n : Nat) (hn : n < 18446744073709551616) (hl : l.length ≤ 900000) :
    Calls Tryd.prog 21 #[.pointer (some ⟨b, 0, none⟩), .int .u64 (n : Int)] w (WEnd w b B (l ++ Var.put n)) := by
  have := entWNum w b B A c l h (n : Int) (by omega) (by omega) hl
  rw [Int.toNat_natCast] at this
  exact this
set_option maxRecDepth 100000 in
set_option maxHeartbeats 2000000 in
theorem entWStat (w : World) (b B : Nat) (A : Option Addr) (c : Nat) (l : List UInt8) (h : WB w b B A c l) (s : St) (hs : statOk s = true) (hl : l.length ≤ 600000) :
    Calls Tryd.prog 40 #[.pointer (some ⟨b, 0, none⟩), .agg #[.int .i64 s.rows.toInt, .int .i64 s.nulls.toInt, .bool s.som, .bool s.high, .int .u8 (s.mn.kind.toNat : Int), .int .i64 s.mn.n.toInt, .string s.mn.s, .int .u8 (s.mx.kind.toNat : Int), .int .i64 s.mx.n.toInt, .string s.mx.s]] w (WEnd w b B (l ++ statB s)) := by
  obtain ⟨q1, q2, q3, q4⟩ := stat_has hs
  obtain ⟨n, hn⟩ : ∃ n : Nat, s.nulls.toInt = (n : Int) := ⟨s.nulls.toInt.toNat, by omega⟩
  have hn64 : n < 18446744073709551616 := by omega
  have e33 : IntKind.u64.wrap (n : Int) = (n : Int) := by rw [IntKind.wrap_u64]; omega
  have e34 : (n : Int) % 18446744073709551616 = (n : Int) := by omega
  have hp1 := Var.put_le10 (n := n) (by omega)
  have hkk := s.mn.kind.toNat_lt
  have hp2 := Var.put_le10 (n := s.mn.kind.toNat) (by omega)
  have p0 := Var.put_le10 (n := 0) (by omega)
  have p1 := Var.put_le10 (n := 1) (by omega)
  have p3 := Var.put_le10 (n := 3) (by omega)
  have hsB : statB s = Var.put n ++ (if s.som = false then Var.put 0 else if s.high = true then Var.put 3 ++ (Var.put s.mn.kind.toNat ++ (cellB s.mn ++ cellB s.mx)) else Var.put 1 ++ (Var.put s.mn.kind.toNat ++ cellB s.mn)) := by unfold statB; rw [hn, Int.toNat_natCast]
  rw [hsB, hn]
  have x0 := boxT_new w #[.int .i64 s.rows.toInt, .int .i64 (n : Int), .bool s.som, .bool s.high, .int .u8 (s.mn.kind.toNat : Int), .int .i64 s.mn.n.toInt, .string s.mn.s, .int .u8 (s.mx.kind.toNat : Int), .int .i64 s.mx.n.toInt, .string s.mx.s] 53
  have hb1 := (Below.refl w.heap.size w).alloc (Nat.le_refl _) (.cells #[.int .i64 s.rows.toInt, .int .i64 (n : Int), .bool s.som, .bool s.high, .int .u8 (s.mn.kind.toNat : Int), .int .i64 s.mn.n.toInt, .string s.mn.s, .int .u8 (s.mx.kind.toNat : Int), .int .i64 s.mx.n.toInt, .string s.mx.s] 53)
  have h1 := h.keep hb1
  have Z1 := (Wz.refl b B w).trans (.of hb1)
  have hne : w.heap.size ≠ b := by have := h.z; omega
  clear hsB hn hs q1 q2 q3
  have k1 := x0.bx.cell 2 _ rfl
  have m1 := x0.bx.cell 3 _ rfl
  cases hsom : s.som with
  | false =>
    rw [if_pos rfl]
    (try rw [hsom] at x0); (try rw [hsom] at h1); (try rw [hsom] at Z1); (try rw [hsom] at k1); (try rw [hsom] at m1)
    clear q4
    go_enter Tryd.func40, Tryd.ntmps40
    go_wp2_with fail
    generalize w.alloc (.cells #[.int .i64 s.rows.toInt, .int .i64 (n : Int), .bool false, .bool s.high, .int .u8 (s.mn.kind.toNat : Int), .int .i64 s.mn.n.toInt, .string s.mn.s, .int .u8 (s.mx.kind.toNat : Int), .int .i64 s.mx.n.toInt, .string s.mx.s] 53) = w1 at *
    generalize w.heap.size = bs at *
    have hl1 : l.length ≤ 600000 := hl
    refine (entWNumN w1 b B A c l h1 n (by omega) (by omega)).mono ?_
    rintro e w2 ⟨rfl, ⟨A2, c2, h2⟩, hz⟩
    have Z2 := Z1.trans hz
    have x1 := x0.wz hz hne (by decide)
    obtain ⟨l2, hl2e⟩ : ∃ l2, l ++ Var.put n = l2 := ⟨_, rfl⟩
    rw [hl2e] at h2
    have hl2 : l2.length ≤ 600100 := by rw [← hl2e, List.length_append]; omega
    have HL2 := hide hl2e
    have k2 := x1.bx.cell 2 _ rfl
    have m2 := x1.bx.cell 3 _ rfl
    have y24 := x1.bx.cell 4 _ rfl
    have y25 := x1.bx.cell 5 _ rfl
    have y26 := x1.bx.cell 6 _ rfl
    have y27 := x1.bx.cell 7 _ rfl
    have y28 := x1.bx.cell 8 _ rfl
    have y29 := x1.bx.cell 9 _ rfl
    clear hl2e h1 hz x0 k1 m1
    go_wp2_with fail
    refine (entWNumN w2 b B A2 c2 l2 h2 0 (by omega) (by omega)).mono ?_
    rintro e w3 ⟨rfl, ⟨A3, c3, h3⟩, hz⟩
    have Z3 := Z2.trans hz
    have x2 := x1.wz hz hne (by decide)
    obtain ⟨l3, hl3e⟩ : ∃ l3, l2 ++ Var.put 0 = l3 := ⟨_, rfl⟩
    rw [hl3e] at h3
    have hl3 : l3.length ≤ 600200 := by rw [← hl3e, List.length_append]; omega
    have HL3 := hide hl3e
    have k3 := x2.bx.cell 2 _ rfl
    have m3 := x2.bx.cell 3 _ rfl
    have y34 := x2.bx.cell 4 _ rfl
    have y35 := x2.bx.cell 5 _ rfl
    have y36 := x2.bx.cell 6 _ rfl
    have y37 := x2.bx.cell 7 _ rfl
    have y38 := x2.bx.cell 8 _ rfl
    have y39 := x2.bx.cell 9 _ rfl
    clear hl3e h2 hz x1 k2 m2 y24 y25 y26 y27 y28 y29
    go_wp2_with fail
    go_end0
    refine ⟨rfl, ⟨A3, c3, ?_⟩, Z3⟩
    rw [← List.append_assoc, HL2.out, HL3.out]
    exact h3
  | true =>
    obtain ⟨b1, b2⟩ := q4 hsom
    have cb1 := cellB_le b1
    rw [if_neg (by simp)]
    (try rw [hsom] at x0); (try rw [hsom] at h1); (try rw [hsom] at Z1); (try rw [hsom] at k1); (try rw [hsom] at m1)
    cases hhi : s.high with
    | true =>
      obtain ⟨b3, -⟩ := b2 hhi
      have cb3 := cellB_le b3
      rw [if_pos rfl]
      (try rw [hhi] at x0); (try rw [hhi] at h1); (try rw [hhi] at Z1); (try rw [hhi] at k1); (try rw [hhi] at m1)
      clear b2 q4
      go_enter Tryd.func40, Tryd.ntmps40
      go_wp2_with fail
      generalize w.alloc (.cells #[.int .i64 s.rows.toInt, .int .i64 (n : Int), .bool true, .bool true, .int .u8 (s.mn.kind.toNat : Int), .int .i64 s.mn.n.toInt, .string s.mn.s, .int .u8 (s.mx.kind.toNat : Int), .int .i64 s.mx.n.toInt, .string s.mx.s] 53) = w1 at *
      generalize w.heap.size = bs at *
      have hl1 : l.length ≤ 600000 := hl
      refine (entWNumN w1 b B A c l h1 n (by omega) (by omega)).mono ?_
      rintro e w2 ⟨rfl, ⟨A2, c2, h2⟩, hz⟩
      have Z2 := Z1.trans hz
      have x1 := x0.wz hz hne (by decide)
      obtain ⟨l2, hl2e⟩ : ∃ l2, l ++ Var.put n = l2 := ⟨_, rfl⟩
      rw [hl2e] at h2
      have hl2 : l2.length ≤ 600100 := by rw [← hl2e, List.length_append]; omega
      have HL2 := hide hl2e
      have k2 := x1.bx.cell 2 _ rfl
      have m2 := x1.bx.cell 3 _ rfl
      have y24 := x1.bx.cell 4 _ rfl
      have y25 := x1.bx.cell 5 _ rfl
      have y26 := x1.bx.cell 6 _ rfl
      have y27 := x1.bx.cell 7 _ rfl
      have y28 := x1.bx.cell 8 _ rfl
      have y29 := x1.bx.cell 9 _ rfl
      clear hl2e h1 hz x0 k1 m1
      go_wp2_with fail
      refine (entWNumN w2 b B A2 c2 l2 h2 3 (by omega) (by omega)).mono ?_
      rintro e w3 ⟨rfl, ⟨A3, c3, h3⟩, hz⟩
      have Z3 := Z2.trans hz
      have x2 := x1.wz hz hne (by decide)
      obtain ⟨l3, hl3e⟩ : ∃ l3, l2 ++ Var.put 3 = l3 := ⟨_, rfl⟩
      rw [hl3e] at h3
      have hl3 : l3.length ≤ 600200 := by rw [← hl3e, List.length_append]; omega
      have HL3 := hide hl3e
      have k3 := x2.bx.cell 2 _ rfl
      have m3 := x2.bx.cell 3 _ rfl
      have y34 := x2.bx.cell 4 _ rfl
      have y35 := x2.bx.cell 5 _ rfl
      have y36 := x2.bx.cell 6 _ rfl
      have y37 := x2.bx.cell 7 _ rfl
      have y38 := x2.bx.cell 8 _ rfl
      have y39 := x2.bx.cell 9 _ rfl
      clear hl3e h2 hz x1 k2 m2 y24 y25 y26 y27 y28 y29
      go_wp2_with fail
      refine (entWNumN w3 b B A3 c3 l3 h3 s.mn.kind.toNat (by omega) (by omega)).mono ?_
      rintro e w4 ⟨rfl, ⟨A4, c4, h4⟩, hz⟩
      have Z4 := Z3.trans hz
      have x3 := x2.wz hz hne (by decide)
      obtain ⟨l4, hl4e⟩ : ∃ l4, l3 ++ Var.put s.mn.kind.toNat = l4 := ⟨_, rfl⟩
      rw [hl4e] at h4
      have hl4 : l4.length ≤ 600300 := by rw [← hl4e, List.length_append]; omega
      have HL4 := hide hl4e
      have k4 := x3.bx.cell 2 _ rfl
      have m4 := x3.bx.cell 3 _ rfl
      have y44 := x3.bx.cell 4 _ rfl
      have y45 := x3.bx.cell 5 _ rfl
      have y46 := x3.bx.cell 6 _ rfl
      have y47 := x3.bx.cell 7 _ rfl
      have y48 := x3.bx.cell 8 _ rfl
      have y49 := x3.bx.cell 9 _ rfl
      clear hl4e h3 hz x2 k3 m3 y34 y35 y36 y37 y38 y39
      go_wp2_with fail
      refine (entWCell w4 b B A4 c4 l4 h4 s.mn b1 (by omega)).mono ?_
      rintro e w5 ⟨rfl, ⟨A5, c5, h5⟩, hz⟩
      have Z5 := Z4.trans hz
      have x4 := x3.wz hz hne (by decide)
      obtain ⟨l5, hl5e⟩ : ∃ l5, l4 ++ cellB s.mn = l5 := ⟨_, rfl⟩
      rw [hl5e] at h5
      have hl5 : l5.length ≤ 600400 := by rw [← hl5e, List.length_append]; omega
      have HL5 := hide hl5e
      have k5 := x4.bx.cell 2 _ rfl
      have m5 := x4.bx.cell 3 _ rfl
      have y54 := x4.bx.cell 4 _ rfl
      have y55 := x4.bx.cell 5 _ rfl
      have y56 := x4.bx.cell 6 _ rfl
      have y57 := x4.bx.cell 7 _ rfl
      have y58 := x4.bx.cell 8 _ rfl
      have y59 := x4.bx.cell 9 _ rfl
      clear hl5e h4 hz x3 k4 m4 y44 y45 y46 y47 y48 y49
      go_wp2_with fail
      refine (entWCell w5 b B A5 c5 l5 h5 s.mx b3 (by omega)).mono ?_
      rintro e w6 ⟨rfl, ⟨A6, c6, h6⟩, hz⟩
      have Z6 := Z5.trans hz
      have x5 := x4.wz hz hne (by decide)
      obtain ⟨l6, hl6e⟩ : ∃ l6, l5 ++ cellB s.mx = l6 := ⟨_, rfl⟩
      rw [hl6e] at h6
      have hl6 : l6.length ≤ 600500 := by rw [← hl6e, List.length_append]; omega
      have HL6 := hide hl6e
      have k6 := x5.bx.cell 2 _ rfl
      have m6 := x5.bx.cell 3 _ rfl
      have y64 := x5.bx.cell 4 _ rfl
      have y65 := x5.bx.cell 5 _ rfl
      have y66 := x5.bx.cell 6 _ rfl
      have y67 := x5.bx.cell 7 _ rfl
      have y68 := x5.bx.cell 8 _ rfl
      have y69 := x5.bx.cell 9 _ rfl
      clear hl6e h5 hz x4 k5 m5 y54 y55 y56 y57 y58 y59
      go_wp2_with fail
      go_end0
      refine ⟨rfl, ⟨A6, c6, ?_⟩, Z6⟩
      rw [← List.append_assoc, HL2.out, ← List.append_assoc, HL3.out, ← List.append_assoc, HL4.out, ← List.append_assoc, HL5.out, HL6.out]
      exact h6
    | false =>
      rw [if_neg (by simp)]
      (try rw [hhi] at x0); (try rw [hhi] at h1); (try rw [hhi] at Z1); (try rw [hhi] at k1); (try rw [hhi] at m1)
      clear b2 q4
      go_enter Tryd.func40, Tryd.ntmps40
      go_wp2_with fail
      generalize w.alloc (.cells #[.int .i64 s.rows.toInt, .int .i64 (n : Int), .bool true, .bool false, .int .u8 (s.mn.kind.toNat : Int), .int .i64 s.mn.n.toInt, .string s.mn.s, .int .u8 (s.mx.kind.toNat : Int), .int .i64 s.mx.n.toInt, .string s.mx.s] 53) = w1 at *
      generalize w.heap.size = bs at *
      have hl1 : l.length ≤ 600000 := hl
      refine (entWNumN w1 b B A c l h1 n (by omega) (by omega)).mono ?_
      rintro e w2 ⟨rfl, ⟨A2, c2, h2⟩, hz⟩
      have Z2 := Z1.trans hz
      have x1 := x0.wz hz hne (by decide)
      obtain ⟨l2, hl2e⟩ : ∃ l2, l ++ Var.put n = l2 := ⟨_, rfl⟩
      rw [hl2e] at h2
      have hl2 : l2.length ≤ 600100 := by rw [← hl2e, List.length_append]; omega
      have HL2 := hide hl2e
      have k2 := x1.bx.cell 2 _ rfl
      have m2 := x1.bx.cell 3 _ rfl
      have y24 := x1.bx.cell 4 _ rfl
      have y25 := x1.bx.cell 5 _ rfl
      have y26 := x1.bx.cell 6 _ rfl
      have y27 := x1.bx.cell 7 _ rfl
      have y28 := x1.bx.cell 8 _ rfl
      have y29 := x1.bx.cell 9 _ rfl
      clear hl2e h1 hz x0 k1 m1
      go_wp2_with fail
      refine (entWNumN w2 b B A2 c2 l2 h2 1 (by omega) (by omega)).mono ?_
      rintro e w3 ⟨rfl, ⟨A3, c3, h3⟩, hz⟩
      have Z3 := Z2.trans hz
      have x2 := x1.wz hz hne (by decide)
      obtain ⟨l3, hl3e⟩ : ∃ l3, l2 ++ Var.put 1 = l3 := ⟨_, rfl⟩
      rw [hl3e] at h3
      have hl3 : l3.length ≤ 600200 := by rw [← hl3e, List.length_append]; omega
      have HL3 := hide hl3e
      have k3 := x2.bx.cell 2 _ rfl
      have m3 := x2.bx.cell 3 _ rfl
      have y34 := x2.bx.cell 4 _ rfl
      have y35 := x2.bx.cell 5 _ rfl
      have y36 := x2.bx.cell 6 _ rfl
      have y37 := x2.bx.cell 7 _ rfl
      have y38 := x2.bx.cell 8 _ rfl
      have y39 := x2.bx.cell 9 _ rfl
      clear hl3e h2 hz x1 k2 m2 y24 y25 y26 y27 y28 y29
      go_wp2_with fail
      refine (entWNumN w3 b B A3 c3 l3 h3 s.mn.kind.toNat (by omega) (by omega)).mono ?_
      rintro e w4 ⟨rfl, ⟨A4, c4, h4⟩, hz⟩
      have Z4 := Z3.trans hz
      have x3 := x2.wz hz hne (by decide)
      obtain ⟨l4, hl4e⟩ : ∃ l4, l3 ++ Var.put s.mn.kind.toNat = l4 := ⟨_, rfl⟩
      rw [hl4e] at h4
      have hl4 : l4.length ≤ 600300 := by rw [← hl4e, List.length_append]; omega
      have HL4 := hide hl4e
      have k4 := x3.bx.cell 2 _ rfl
      have m4 := x3.bx.cell 3 _ rfl
      have y44 := x3.bx.cell 4 _ rfl
      have y45 := x3.bx.cell 5 _ rfl
      have y46 := x3.bx.cell 6 _ rfl
      have y47 := x3.bx.cell 7 _ rfl
      have y48 := x3.bx.cell 8 _ rfl
      have y49 := x3.bx.cell 9 _ rfl
      clear hl4e h3 hz x2 k3 m3 y34 y35 y36 y37 y38 y39
      go_wp2_with fail
      refine (entWCell w4 b B A4 c4 l4 h4 s.mn b1 (by omega)).mono ?_
      rintro e w5 ⟨rfl, ⟨A5, c5, h5⟩, hz⟩
      have Z5 := Z4.trans hz
      have x4 := x3.wz hz hne (by decide)
      obtain ⟨l5, hl5e⟩ : ∃ l5, l4 ++ cellB s.mn = l5 := ⟨_, rfl⟩
      rw [hl5e] at h5
      have hl5 : l5.length ≤ 600400 := by rw [← hl5e, List.length_append]; omega
      have HL5 := hide hl5e
      have k5 := x4.bx.cell 2 _ rfl
      have m5 := x4.bx.cell 3 _ rfl
      have y54 := x4.bx.cell 4 _ rfl
      have y55 := x4.bx.cell 5 _ rfl
      have y56 := x4.bx.cell 6 _ rfl
      have y57 := x4.bx.cell 7 _ rfl
      have y58 := x4.bx.cell 8 _ rfl
      have y59 := x4.bx.cell 9 _ rfl
      clear hl5e h4 hz x3 k4 m4 y44 y45 y46 y47 y48 y49
      go_wp2_with fail
      go_end0
      refine ⟨rfl, ⟨A5, c5, ?_⟩, Z5⟩
      rw [← List.append_assoc, HL2.out, ← List.append_assoc, HL3.out, ← List.append_assoc, HL4.out, HL5.out]
      exact h5
end Go.Proofs.YtbcnekaagkdmeaaDoor
