/- TABLES OF ONE's OWN: rows with rows of their own; what leaves them as they are; words for regions that draw. No statement of the seat is proved here; no condition. -/
import Derived.Test.YtlccpchlclpnaaaMetaH
namespace Go.Proofs.Ytlccpchlclpnaaa
open Go.RowKit

theorem own_grown {w w' : World} {base base2 sz sz2 n n2 : Nat} {e e2 : TypeId} {v v2 : Value} {xs xs2 : List Value} (h : w.ownsRow base e sz v n xs) (ho : w.ownsRow base2 e2 sz2 v2 n2 xs2) (hg : w.grownBy w' v2.ownBlock) (hne : e ≠ e2) : w'.ownsRow base e sz v n xs := by
  refine h.kept hg ?_
  rcases h.2 with ⟨rfl, _⟩ | ⟨g, cap, cur, rfl, _, hc, _⟩
  · exact .inl rfl
  · refine .inr fun q => ?_
    rcases ho.2 with ⟨rfl, _⟩ | ⟨g2, cap2, cur2, rfl, _, hc2, _⟩
    · cases q
    · simp only [Value.ownBlock] at q
      injection q with q
      subst q
      rw [hc] at hc2
      injection hc2 with hc2
      injection hc2 with _ q2 _
      exact hne q2
structure OwnT (w : World) (B : Nat) (sA : Option Addr) (sc : Nat) (ss : List Sl) (nA : Option Addr) (nc : Nat) (ns : List Nl) : Prop where
  sown : w.ownsRow B 25 2 (.slice sA ss.length sc) ss.length (slsV ss)
  sin : ∀ s ∈ ss, w.ownsRow B 96 4 (.slice s.A s.fs.length s.c) s.fs.length (fdsV s.fs)
  nown : w.ownsRow B 73 7 (.slice nA ns.length nc) ns.length (nlsV ns)
  nin : ∀ s ∈ ns, w.ownsRow B 9 1 (.slice s.A s.p.ms.length s.c) s.p.ms.length (strsV s.p.ms)
theorem rd_own {w : World} {B sz n c : Nat} {e : TypeId} {A : Option Addr} {xs : List Value} (h : w.ownsRow B e sz (.slice A n c) n xs) : Rd w w.heap.size sz A n c xs := by
  obtain ⟨A', c', q, hr⟩ := Rd.of_own h
  injection q with q1 q2 q3
  subst q1 q3
  exact hr
section
variable {w w' : World} {B sc nc : Nat} {sA nA : Option Addr} {ss : List Sl} {ns : List Nl}
theorem OwnT.keep (h : OwnT w B sA sc ss nA nc ns) (hb : Below w.heap.size w w') : OwnT w' B sA sc ss nA nc ns :=
  ⟨own_below h.sown hb, fun s hs => own_below (h.sin s hs) hb, own_below h.nown hb, fun s hs => own_below (h.nin s hs) hb⟩
theorem OwnT.set (h : OwnT w B sA sc ss nA nc ns) {p : Addr} (hp : p.block < B) (x : Value) : OwnT (w.setCell p x) B sA sc ss nA nc ns :=
  ⟨ownsRow_setCell_below h.sown hp x, fun s hs => ownsRow_setCell_below (h.sin s hs) hp x, ownsRow_setCell_below h.nown hp x, fun s hs => ownsRow_setCell_below (h.nin s hs) hp x⟩
theorem OwnT.base (h : OwnT w B sA sc ss nA nc ns) {B2 : Nat} (hB : B2 ≤ B) : OwnT w B2 sA sc ss nA nc ns :=
  ⟨own_base h.sown hB, fun s hs => own_base (h.sin s hs) hB, own_base h.nown hB, fun s hs => own_base (h.nin s hs) hB⟩
theorem OwnT.tab (h : OwnT w B sA sc ss nA nc ns) : TabR w w.heap.size sA sc ss nA nc ns :=
  ⟨rd_own h.sown, fun s hs => rd_own (h.sin s hs), rd_own h.nown, fun s hs => rd_own (h.nin s hs)⟩
theorem OwnT.nil (w : World) (B : Nat) : OwnT w B none 0 [] none 0 [] := ⟨World.ownsRow_nil _ _ _ _, by simp, World.ownsRow_nil _ _ _ _, by simp⟩
/-- a schema more -/
theorem OwnT.snocS (h : OwnT w B sA sc ss nA nc ns) {v : Value} {s : Sl} (hin : w.ownsRow B 96 4 (.slice s.A s.fs.length s.c) s.fs.length (fdsV s.fs)) (hown : w'.ownsRow B 25 2 v (ss.length + 1) (slsV ss ++ slV s)) (hg : w.grownBy w' (Value.slice sA ss.length sc).ownBlock) :
    ∃ g cap, v = .slice (some ⟨g, 0, none⟩) (ss.length + 1) cap ∧ OwnT w' B (some ⟨g, 0, none⟩) cap (ss ++ [s]) nA nc ns := by
  obtain ⟨g, cap, rfl, _, _⟩ := hown.form (Nat.succ_pos _)
  have e1 : (ss ++ [s]).length = ss.length + 1 := by simp
  have e2 : slsV ss ++ slV s = slsV (ss ++ [s]) := by rw [slsV_append]; simp [slsV]
  refine ⟨g, cap, rfl, by rw [e1, ← e2]; exact hown, fun x hx => ?_, own_grown h.nown h.sown hg (by decide), fun x hx => own_grown (h.nin x hx) h.sown hg (by decide)⟩
  rcases List.mem_append.1 hx with hx | hx
  · exact own_grown (h.sin x hx) h.sown hg (by decide)
  · have : x = s := by simpa using hx
    subst this
    exact own_grown hin h.sown hg (by decide)
/-- a snapshot more -/
theorem OwnT.snocN (h : OwnT w B sA sc ss nA nc ns) {v : Value} {s : Nl} (hin : w.ownsRow B 9 1 (.slice s.A s.p.ms.length s.c) s.p.ms.length (strsV s.p.ms)) (hown : w'.ownsRow B 73 7 v (ns.length + 1) (nlsV ns ++ nlV s)) (hg : w.grownBy w' (Value.slice nA ns.length nc).ownBlock) :
    ∃ g cap, v = .slice (some ⟨g, 0, none⟩) (ns.length + 1) cap ∧ OwnT w' B sA sc ss (some ⟨g, 0, none⟩) cap (ns ++ [s]) := by
  obtain ⟨g, cap, rfl, _, _⟩ := hown.form (Nat.succ_pos _)
  have e1 : (ns ++ [s]).length = ns.length + 1 := by simp
  have e2 : nlsV ns ++ nlV s = nlsV (ns ++ [s]) := by rw [nlsV_append]; simp [nlsV]
  refine ⟨g, cap, rfl, own_grown h.sown h.nown hg (by decide), fun x hx => own_grown (h.sin x hx) h.nown hg (by decide), by rw [e1, ← e2]; exact hown, fun x hx => ?_⟩
  rcases List.mem_append.1 hx with hx | hx
  · exact own_grown (h.nin x hx) h.nown hg (by decide)
  · have : x = s := by simpa using hx
    subst this
    exact own_grown hin h.nown hg (by decide)
end
/-! ### words for regions -/
def SchO (B : Nat) (id : UInt32) (fs : List Fd) (v : Value) (w : World) : Prop := ∃ A c, v = .agg #[.int .u32 (id.toNat : Int), .slice A fs.length c] ∧ w.ownsRow B 96 4 (.slice A fs.length c) fs.length (fdsV fs)
theorem mono_schO (B : Nat) (id : UInt32) (fs : List Fd) : (Slot.has (SchO B id fs)).mono Ext := fun _ _ _ he ⟨A, c, e, h⟩ => ⟨A, c, e, own_below h he⟩
def LitS (B : Nat) (id : UInt32) (fs : List Fd) (v : Value) (w : World) : Prop := ∃ A c L, v = .slice L 1 1 ∧ Rd w w.heap.size 2 L 1 1 (slV ⟨id, fs, A, c⟩) ∧ w.ownsRow B 96 4 (.slice A fs.length c) fs.length (fdsV fs)
theorem mono_litS (B : Nat) (id : UInt32) (fs : List Fd) : (Slot.has (LitS B id fs)).mono Ext := fun _ _ _ he ⟨A, c, L, e, h, h2⟩ => ⟨A, c, L, e, (h.below he).more he.size, own_below h2 he⟩
theorem litS_new (w : World) {B : Nat} {id : UInt32} {fs : List Fd} {A : Option Addr} {c : Nat} (h : w.ownsRow B 96 4 (.slice A fs.length c) fs.length (fdsV fs)) :
    (Slot.has (LitS B id fs)).holds (.slice (some ⟨w.heap.size, 0, none⟩) 1 1) (w.alloc (.cells #[.int .u32 (id.toNat : Int), .slice A fs.length c] 25)) := by
  refine ⟨A, c, _, rfl, ?_, h.alloc _⟩
  have := Rd.lit w 25 #[.int .u32 (id.toNat : Int), .slice A fs.length c] (n := 1) (sz := 2) rfl (by decide)
  exact this.more (by simp)
def SnO (B : Nat) (p : Sn) (v : Value) (w : World) : Prop := ∃ A c, v = .agg #[.int .u64 (p.id.toNat : Int), .int .u64 (p.par.toNat : Int), .int .u64 (p.seq.toNat : Int), .int .u64 (p.off.toNat : Int), .int .u64 (p.tim.toNat : Int), .int .u32 (p.sch.toNat : Int), .slice A p.ms.length c] ∧ w.ownsRow B 9 1 (.slice A p.ms.length c) p.ms.length (strsV p.ms)
theorem mono_snO (B : Nat) (p : Sn) : (Slot.has (SnO B p)).mono Ext := fun _ _ _ he ⟨A, c, e, h⟩ => ⟨A, c, e, own_below h he⟩
theorem snO_ret {w w' : World} {B : Nat} {p : Sn} {e : Ending} (h : OwnEnd w p e w') (hB : B ≤ w.heap.size) : ∃ v, e = .returned v ∧ Ext w w' ∧ (Slot.has (SnO B p)).holds v w' := by
  obtain ⟨A, c, rfl, ho, hb⟩ := h
  exact ⟨_, rfl, hb, A, c, rfl, own_base ho hB⟩
def LitN (B : Nat) (p : Sn) (v : Value) (w : World) : Prop := ∃ A c L, v = .slice L 1 1 ∧ Rd w w.heap.size 7 L 1 1 (nlV ⟨p, A, c⟩) ∧ w.ownsRow B 9 1 (.slice A p.ms.length c) p.ms.length (strsV p.ms)
theorem mono_litN (B : Nat) (p : Sn) : (Slot.has (LitN B p)).mono Ext := fun _ _ _ he ⟨A, c, L, e, h, h2⟩ => ⟨A, c, L, e, (h.below he).more he.size, own_below h2 he⟩
theorem litN_new (w : World) {B : Nat} {p : Sn} {A : Option Addr} {c : Nat} (h : w.ownsRow B 9 1 (.slice A p.ms.length c) p.ms.length (strsV p.ms)) :
    (Slot.has (LitN B p)).holds (.slice (some ⟨w.heap.size, 0, none⟩) 1 1) (w.alloc (.cells #[.int .u64 (p.id.toNat : Int), .int .u64 (p.par.toNat : Int), .int .u64 (p.seq.toNat : Int), .int .u64 (p.off.toNat : Int), .int .u64 (p.tim.toNat : Int), .int .u32 (p.sch.toNat : Int), .slice A p.ms.length c] 73)) := by
  refine ⟨A, c, _, rfl, ?_, h.alloc _⟩
  have := Rd.lit w 73 #[.int .u64 (p.id.toNat : Int), .int .u64 (p.par.toNat : Int), .int .u64 (p.seq.toNat : Int), .int .u64 (p.off.toNat : Int), .int .u64 (p.tim.toNat : Int), .int .u32 (p.sch.toNat : Int), .slice A p.ms.length c] (n := 1) (sz := 7) rfl (by decide)
  exact this.more (by simp)
/-! ### a table as a value -/
theorem load_tb (w : World) (b : Nat) (v0 v1 v2 : Value) (c0 : w.cell? ⟨b, 0, none⟩ = some v0) (c1 : w.cell? ⟨b, 1, none⟩ = some v1) (c2 : w.cell? ⟨b, 2, none⟩ = some v2) :
    (loadVar 70 ⟨b, 0, none⟩).run Try.prog w = .ok (.agg #[v0, v1, v2]) w := by
  go_simp
theorem ret_tb1 {fn : Func} {p : Tmp} (h : fn.results = #[.cell p 70]) (tmps : Array Value) (w : World) {b : Nat} {v0 v1 v2 : Value} (hp : tmps.getD p undef = .pointer (some ⟨b, 0, none⟩)) (hb : BoxN w b [v0, v1, v2]) :
    (results fn tmps).run Try.prog w = .ok (.agg #[v0, v1, v2]) w := by
  rw [results_cell h, hp]
  have := load_tb w b _ _ _ (hb.cell 0 _ rfl) (hb.cell 1 _ rfl) (hb.cell 2 _ rfl)
  simp [asAddr, Result.andThen, this]
theorem ret_tb2 {fn : Func} {p u : Tmp} (h : fn.results = #[.cell p 70, .tmp u]) (tmps : Array Value) (w : World) {b : Nat} {v0 v1 v2 : Value} (hp : tmps.getD p undef = .pointer (some ⟨b, 0, none⟩)) (hb : BoxN w b [v0, v1, v2]) :
    (results fn tmps).run Try.prog w = .ok (.tuple #[.agg #[v0, v1, v2], tmps.getD u undef]) w := by
  rw [results_cell_tmp h, hp]
  have := load_tb w b _ _ _ (hb.cell 0 _ rfl) (hb.cell 1 _ rfl) (hb.cell 2 _ rfl)
  simp [asAddr, Result.andThen, this]
def set3b (w : World) (b : Nat) (v0 v1 v2 : Value) : World := ((w.setCell ⟨b, 0, none⟩ v0).setCell ⟨b, 1, none⟩ v1).setCell ⟨b, 2, none⟩ v2
section
variable {w : World} {b : Nat} {v0 v1 v2 : Value}
theorem BoxN.set3b {u0 u1 u2 : Value} (h : BoxN w b [u0, u1, u2]) : BoxN (set3b w b v0 v1 v2) b [v0, v1, v2] := ((h.set (j := 0) v0 rfl).set (j := 1) v1 rfl).set (j := 2) v2 rfl
theorem below_set3b {B : Nat} {w0 : World} (h : Below B w0 w) (hb : B ≤ b) : Below B w0 (set3b w b v0 v1 v2) := ((h.setCell (p := ⟨b, 0, none⟩) hb _).setCell (p := ⟨b, 1, none⟩) hb _).setCell (p := ⟨b, 2, none⟩) hb _
theorem OwnT.set3b {B sc nc : Nat} {sA nA : Option Addr} {ss : List Sl} {ns : List Nl} (h : OwnT w B sA sc ss nA nc ns) (hb : b < B) : OwnT (set3b w b v0 v1 v2) B sA sc ss nA nc ns :=
  ((h.set (p := ⟨b, 0, none⟩) hb v0).set (p := ⟨b, 1, none⟩) hb v1).set (p := ⟨b, 2, none⟩) hb v2
end
def plS (s : Sl) : UInt32 × List Fd := (s.id, s.fs)
def plN (s : Nl) : Sn := s.p
/-- a table of one's own, with the same schemas and snapshots -/
def CopyEnd (w : World) (ss : List Sl) (ns : List Nl) (cur : Nat) (e : Ending) (w' : World) : Prop :=
  ∃ sA sc ss' nA nc ns', e = .returned (.agg #[.slice sA ss'.length sc, .slice nA ns'.length nc, .int .u64 (cur : Int)]) ∧ OwnT w' w.heap.size sA sc ss' nA nc ns' ∧ ss'.map plS = ss.map plS ∧ ns'.map plN = ns.map plN ∧ Below w.heap.size w w'
/-- what holds at each round -/
structure CI (w0 : World) (b3 : Nat) (cur : Nat) (sA : Option Addr) (sc : Nat) (ss : List Sl) (nA : Option Addr) (nc : Nat) (ns : List Nl) (wr : World) : Prop where
  bx : BoxN wr b3 #[.slice sA ss.length sc, .slice nA ns.length nc, .int .u64 (cur : Int)].toList
  own : OwnT wr w0.heap.size sA sc ss nA nc ns
  below : Below b3 w0 wr
  lt : b3 < w0.heap.size
end Go.Proofs.Ytlccpchlclpnaaa
