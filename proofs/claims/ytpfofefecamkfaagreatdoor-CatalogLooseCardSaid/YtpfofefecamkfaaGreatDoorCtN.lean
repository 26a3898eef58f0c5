/- PLAIN: a name's number: what digits alone are read as. No statement of the seat is proved here; no condition. -/
import Derived.Test.YtpfofefecamkfaaGreatDoorCtQ
namespace Go.Proofs.YtpfofefecamkfaaGreatDoor
open Go.RowKit

theorem dropWhile_nil {α:Type} {p : α → Bool}:∀ {l:List α},l.dropWhile p = [] → ∀ b ∈ l,p b = true
 | [],_,b,hb => by cases hb
 | a :: l,h,b,hb => by
   rw [List.dropWhile_cons] at h
   cases ha:p a with
   | false => rw [ha] at h;simp at h
   | true =>
     rw [ha] at h
     rcases List.mem_cons.1 hb with rfl | hb
     ·exact ha
     ·exact dropWhile_nil (by simpa using h) b hb
theorem takeWhile_all {α:Type} {p : α → Bool}:∀ {l:List α},∀ b ∈ l.takeWhile p,p b = true
 | [],b,hb => by cases hb
 | a :: l,b,hb => by
   rw [List.takeWhile_cons] at hb
   cases ha:p a with
   | false => rw [ha] at hb;simp at hb
   | true =>
     rw [ha] at hb
     rcases List.mem_cons.1 hb with rfl | hb
     ·exact ha
     ·exact takeWhile_all b (by simpa using hb)
theorem trim_nil {l cs:List UInt8} (h:Lib.trimS l cs = []):∀ b ∈ l,cs.contains b = true:=by
 unfold Lib.trimS Lib.trimLeftS at h
 have h1:=dropWhile_nil h
 intro b hb
 have e:l.reverse = l.reverse.takeWhile (cs.contains ·) ++ l.reverse.dropWhile (cs.contains ·):=(List.takeWhile_append_dropWhile).symm
 have hb2:b ∈ l.reverse:=List.mem_reverse.2 hb
 rw [e] at hb2
 rcases List.mem_append.1 hb2 with q | q
 ·exact takeWhile_all b q
 ·exact h1 b (by unfold Lib.trimRightS;exact List.mem_reverse.2 q)
theorem dig_in {b:UInt8} (h:digs.contains b = true):48 ≤ b.toNat ∧ b.toNat ≤ 57:=by
 simp only [digs,List.contains,List.elem_eq_mem] at h
 simp at h
 rcases h with rfl | rfl | rfl | rfl | rfl | rfl | rfl | rfl | rfl | rfl <;> decide
theorem parse_digs:∀ (l:List UInt8) (acc:Nat),(∀ b ∈ l,48 ≤ b.toNat ∧ b.toNat ≤ 57) → (∃ u,Lib.parseUint10 acc l = .ok u) ∨ Lib.parseUint10 acc l = .range
 | [],acc,_ => .inl ⟨acc,by simp [Lib.parseUint10]⟩
 | c :: r,acc,h => by
   have hc:=h c (List.mem_cons_self ..)
   unfold Lib.parseUint10
   rw [if_pos hc]
   split
   ·simp
   split
   ·simp
   ·exact parse_digs r _ (fun b hb => h b (List.mem_cons_of_mem _ hb))
/-- digits alone are read as a number, or are out of range -/
theorem atoi_digs {l:List UInt8} (h0:l ≠ []) (h:∀ b ∈ l,48 ≤ b.toNat ∧ b.toNat ≤ 57):(∃ v:Nat,Lib.atoiAll l = .ok (v:Int) ∧ (v:Int) ≤ 9223372036854775807) ∨ Lib.atoiAll l = .range:=by
 cases l with
 | nil => exact absurd rfl h0
 | cons c r =>
   have hc:=h c (List.mem_cons_self ..)
   have n1:¬ c.toNat = 43:=by omega
   have n2:¬ c.toNat = 45:=by omega
   unfold Lib.atoiAll
   simp only [n2,n1,or_self,if_false]
   have hm:Lib.parseMag (c :: r) = Lib.parseUint10 0 (c :: r):=by unfold Lib.parseMag;rw [if_neg (by simp)]
   rw [hm]
   rcases parse_digs (c :: r) 0 h with ⟨u,hp⟩ | hp
   ·rw [hp]
    by_cases hu:9223372036854775808 ≤ u
    ·right
     simp [hu]
    ·left
     refine ⟨u,?_,by omega⟩
     simp [hu]
   ·rw [hp]
    exact .inr rfl
theorem nOdd_digs {s:ByteArray} (h:nOdd s = false) (h2:2 ≤ s.size):s.data.toList.drop 1 ≠ [] ∧ ∀ b ∈ s.data.toList.drop 1,48 ≤ b.toNat ∧ b.toNat ≤ 57:=by
 unfold nOdd at h
 rw [Bool.or_eq_false_iff,Bool.not_eq_false',List.isEmpty_iff] at h
 refine ⟨fun q => ?_,fun b hb => dig_in (trim_nil h.2 b hb)⟩
 have:=congrArg List.length q
 simp at this
 have e:s.data.size = s.size:=rfl
 omega
theorem nVal_ok {s:ByteArray} {v:Nat} (h:Lib.atoiAll (s.data.toList.drop 1) = .ok (v:Int)):nVal s = v:=by unfold nVal;rw [h];simp
theorem nVal_range {s:ByteArray} (h:Lib.atoiAll (s.data.toList.drop 1) = .range):nVal s = 1073741824:=by unfold nVal;rw [h]
end Go.Proofs.YtpfofefecamkfaaGreatDoor
