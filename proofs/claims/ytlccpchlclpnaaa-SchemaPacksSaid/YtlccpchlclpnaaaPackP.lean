/- PLAIN LAWS of a schema's bytes: what is packed is read again; what may not be is not. No program in sight; no statement of the seat is proved here; no condition. -/
import Derived.Test.YtlccpchlclpnaaaRdr
import Derived.Test.YtlccpchlclpnaaaBoxN
import Derived.Test.YtlccpchlclpnaaaGrow
namespace Go.Proofs.Ytlccpchlclpnaaa

def packF (f : Fd) : List UInt8 := Var.put f.id.toNat ++ (Var.put f.name.size ++ (f.name.data.toList ++ (Var.put f.kind.toNat ++ [if f.need then 1 else 0])))
def packFs (l : List Fd) : List UInt8 := l.flatMap packF
def pack (id : UInt32) (l : List Fd) : List UInt8 := Var.put id.toNat ++ (Var.put l.length ++ packFs l)
theorem packFs_cons (f : Fd) (l : List Fd) : packFs (f :: l) = packF f ++ packFs l := rfl
theorem packFs_append (a b : List Fd) : packFs (a ++ b) = packFs a ++ packFs b := by simp [packFs]

theorem num_put {most n : Nat} (h : n ≤ most) (hm : most < 18446744073709551616) (rest : List UInt8) : num most (Var.put n ++ rest) 0 = (n, rest, 0) := by
  have hg := Var.get_put (n := n) (by omega) rest
  rw [num_0 (by rw [hg]) (by rw [hg]; omega), hg]
  simp
theorem num_big {most n : Nat} (h : most < n) (hn : n < 18446744073709551616) (rest : List UInt8) : (num most (Var.put n ++ rest) 0).2.2 = 40 ∧ (num most (Var.put n ++ rest) 0).1 = 0 := by
  have hg := Var.get_put (n := n) hn rest
  rw [num_m (by rw [hg]) (by rw [hg]; exact h)]
  exact ⟨rfl, rfl⟩
theorem put_bit (b : Bool) : [if b then (1 : UInt8) else 0] = Var.put (if b then 1 else 0) := by
  cases b
  · rw [if_neg (by simp), if_neg (by simp), Var.put_lt (by omega)]; rfl
  · rw [if_pos rfl, if_pos rfl, Var.put_lt (by omega)]; rfl
theorem rdF_pack (f : Fd) (h : f.name.size ≤ 16) (rest : List UInt8) : rdF (packF f ++ rest) 0 = (f, rest, 0) := by
  have hid := f.id.toNat_lt
  have hkd := f.kind.toNat_lt
  have e1 : packF f ++ rest = Var.put f.id.toNat ++ (Var.put f.name.size ++ (f.name.data.toList ++ (Var.put f.kind.toNat ++ (Var.put (if f.need then 1 else 0) ++ rest)))) := by
    unfold packF
    rw [put_bit]
    simp only [List.append_assoc]
  have h1 := num_put (most := 4294967295) (n := f.id.toNat) (by omega) (by decide) (Var.put f.name.size ++ (f.name.data.toList ++ (Var.put f.kind.toNat ++ (Var.put (if f.need then 1 else 0) ++ rest))))
  have h2 := num_put (most := 16) (n := f.name.size) h (by decide) (f.name.data.toList ++ (Var.put f.kind.toNat ++ (Var.put (if f.need then 1 else 0) ++ rest)))
  have h3 := num_put (most := 255) (n := f.kind.toNat) (by omega) (by decide) (Var.put (if f.need then 1 else 0) ++ rest)
  have h4 := num_put (most := 1) (n := if f.need then 1 else 0) (by split <;> omega) (by decide) rest
  have hs : f.name.data.toList.length = f.name.size := by simp
  obtain ⟨t1, t2, t3⟩ := text_0 (r := (f.name.size, f.name.data.toList ++ (Var.put f.kind.toNat ++ (Var.put (if f.need then 1 else 0) ++ rest)), 0)) rfl (by simp only [List.length_append, hs]; omega)
  rw [e1, rdF_of h1 h2 (by rw [t1, t3]; simp only []; rw [← hs, List.drop_left]; exact h3) h4, t2]
  have hn : (⟨(List.take f.name.size (f.name.data.toList ++ (Var.put f.kind.toNat ++ (Var.put (if f.need then 1 else 0) ++ rest)))).toArray⟩ : ByteArray) = f.name := by
    rw [← hs, List.take_left]
  have hb : decide ((if f.need then 1 else 0) = 1) = f.need := by cases f.need <;> rfl
  simp only []
  rw [hn, hb]
theorem rdF_long (f : Fd) (h : 16 < f.name.size) (hn : f.name.size < 18446744073709551616) (rest : List UInt8) : (rdF (packF f ++ rest) 0).2.2 = 40 := by
  have hid := f.id.toNat_lt
  have e1 : packF f ++ rest = Var.put f.id.toNat ++ (Var.put f.name.size ++ (f.name.data.toList ++ (Var.put f.kind.toNat ++ ([if f.need then 1 else 0] ++ rest)))) := by
    unfold packF
    simp only [List.append_assoc]
  have h1 := num_put (most := 4294967295) (n := f.id.toNat) (by omega) (by decide) (Var.put f.name.size ++ (f.name.data.toList ++ (Var.put f.kind.toNat ++ ([if f.need then 1 else 0] ++ rest))))
  obtain ⟨h2, _⟩ := num_big (most := 16) h hn (f.name.data.toList ++ (Var.put f.kind.toNat ++ ([if f.need then 1 else 0] ++ rest)))
  obtain ⟨t1, t2, t3⟩ := text_e (r := num 16 (Var.put f.name.size ++ (f.name.data.toList ++ (Var.put f.kind.toNat ++ ([if f.need then 1 else 0] ++ rest)))) 0) (by rw [h2]; decide)
  unfold rdF
  rw [e1]
  simp only [h1]
  rw [t1, h2]
  have e4 : ∀ L, num 255 L 40 = (0, L, 40) := fun L => num_e (by decide)
  rw [e4]
  exact congrArg (fun r : RdN => r.2.2) (num_e (most := 1) (e := 40) (by decide))
theorem rdFs_pack : ∀ (l acc : List Fd) (rest : List UInt8), (∀ f ∈ l, f.name.size ≤ 16) → rdFs l.length (packFs l ++ rest) 0 acc = (acc ++ l, rest, 0)
  | [], acc, rest, _ => by simp [rdFs, packFs]
  | f :: l, acc, rest, h => by
    rw [packFs_cons, List.append_assoc, List.length_cons, rdFs_on, rdF_pack f (h f (by simp))]
    rw [rdFs_pack l _ rest fun g hg => h g (by simp [hg])]
    simp
theorem rdFs_long : ∀ (l acc : List Fd) (rest : List UInt8), (∀ f ∈ l, f.name.size < 18446744073709551616) → (∃ f ∈ l, 16 < f.name.size) → (rdFs l.length (packFs l ++ rest) 0 acc).2.2 = 40
  | [], acc, rest, _, h => by obtain ⟨f, hf, _⟩ := h; cases hf
  | f :: l, acc, rest, hb, h => by
    rw [packFs_cons, List.append_assoc, List.length_cons, rdFs_on]
    by_cases hf : 16 < f.name.size
    · have h1 := rdF_long f hf (hb f (by simp)) (packFs l ++ rest)
      rw [rdFs_end (.inr (by rw [h1]; decide))]
      exact h1
    · rw [rdF_pack f (by omega)]
      refine rdFs_long l _ rest (fun g hg => hb g (by simp [hg])) ?_
      obtain ⟨g, hg, hl⟩ := h
      rcases List.mem_cons.1 hg with rfl | hg
      · exact absurd hl hf
      · exact ⟨g, hg, hl⟩
theorem rdS_pack (id : UInt32) (l : List Fd) (rest : List UInt8) (h8 : l.length ≤ 8) (h : ∀ f ∈ l, f.name.size ≤ 16) : rdS (pack id l ++ rest) 0 = ⟨id, l, rest, check id l⟩ := by
  have hid := id.toNat_lt
  have h1 := num_put (most := 4294967295) (n := id.toNat) (by omega) (by decide) (Var.put l.length ++ (packFs l ++ rest))
  have h2 := num_put (most := 8) (n := l.length) h8 (by decide) (packFs l ++ rest)
  have h3 := rdFs_pack l [] rest h
  have e1 : pack id l ++ rest = Var.put id.toNat ++ (Var.put l.length ++ (packFs l ++ rest)) := by unfold pack; simp only [List.append_assoc]
  rw [e1, rdS_of h1.symm h2.symm h3]
  simp
theorem rdS_bad (id : UInt32) (l : List Fd) (rest : List UInt8) (hb : ∀ f ∈ l, f.name.size < 18446744073709551616) (hl : l.length < 18446744073709551616) (h : check id l ≠ 0) : (rdS (pack id l ++ rest) 0).err ≠ 0 := by
  have hid := id.toNat_lt
  have e1 : pack id l ++ rest = Var.put id.toNat ++ (Var.put l.length ++ (packFs l ++ rest)) := by unfold pack; simp only [List.append_assoc]
  have h1 := num_put (most := 4294967295) (n := id.toNat) (by omega) (by decide) (Var.put l.length ++ (packFs l ++ rest))
  by_cases h8 : l.length ≤ 8
  · by_cases h16 : ∀ f ∈ l, f.name.size ≤ 16
    · rw [rdS_pack id l rest h8 h16]; exact h
    · have h2 := num_put (most := 8) (n := l.length) h8 (by decide) (packFs l ++ rest)
      have h3 := rdFs_long l [] rest hb (by
        simp only [Classical.not_forall, Nat.not_le] at h16
        obtain ⟨f, hf, h5⟩ := h16
        exact ⟨f, hf, h5⟩)
      unfold rdS
      rw [e1]
      simp only [h1, h2]
      rw [h3, if_neg (by decide)]
      decide
  · obtain ⟨h2, h3⟩ := num_big (most := 8) (n := l.length) (by omega) hl (packFs l ++ rest)
    unfold rdS
    rw [e1]
    simp only [h1]
    rw [h3, h2]
    simp [rdFs]
/-- the names of a schema that may be are short -/
theorem check_names {id : UInt32} {l : List Fd} (h : check id l = 0) : ∀ f ∈ l, f.name.size ≤ 16 := by
  intro f hf
  obtain ⟨k, hk, rfl⟩ := List.getElem_of_mem hf
  have h0 := check_all h k hk
  have hg : l.getD k default = l[k] := by simp [List.getD, hk]
  by_cases h1 : l[k].id.toNat ≤ wasId l k
  · rw [errAt_81 (f := l[k]) hg h1] at h0; cases h0
  · cases hn : named l[k].name with
    | false => rw [errAt_80 (f := l[k]) hg h1 (by rw [hn]; rfl)] at h0; cases h0
    | true =>
      unfold named at hn
      simp at hn
      omega
theorem pack_unp {id : UInt32} {l : List Fd} (h : check id l = 0) (rest : List UInt8) : rdS (pack id l ++ rest) 0 = ⟨id, l, rest, 0⟩ := by
  rw [rdS_pack id l rest (check_len h).2.2 (check_names h), h]
end Go.Proofs.Ytlccpchlclpnaaa
