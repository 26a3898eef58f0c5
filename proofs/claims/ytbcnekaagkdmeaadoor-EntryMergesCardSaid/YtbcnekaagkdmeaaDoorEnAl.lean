/- THE WALK of the entries' stage: the document's examples. No statement of the seat is proved here; no condition but the table of sums. -/
import Derived.Test.YtbcnekaagkdmeaaDoorEnG
namespace Go.Proofs.YtbcnekaagkdmeaaDoor
open Go.RowKit

def stx : St := ⟨1, 1, false, false, ceZ, ceZ⟩
def enx : En := ⟨⟨#[100, 49]⟩, false, 1, 1, 1, [stx]⟩
def enz : En := ⟨⟨#[100, 49]⟩, false, 0, 0, 1, []⟩
theorem errE_x : errE [enx] = 0 := by decide +kernel
theorem errE_0 : errE [] = 0 := by decide +kernel
theorem right_z : rightE enz = false := by decide +kernel
theorem opE_x : opE (wrES [enx]) = (0, [enx]) := by
  have h : open_ (wrES [enx]) = some (wrE [enx]) := open_seal _
  have he := ents_wrE errE_x
  rw [opE_good h (by decide +kernel) (by rw [he]; simp) (by rw [he]; exact ⟨errE_x, rfl⟩), he]
theorem wrES_0 : (wrES []).take 4 = [77, 70, 49, 0] := by decide +kernel
theorem wrES_0len : 4 ≤ (wrES []).length := by decide +kernel
theorem wrES_len {l : List En} (h : errE l = 0) : (wrES l).length ≤ 1000000 := by
  unfold errE at h
  split at h
  · cases h
  split at h
  · rename_i h64 hal
    have := wrE_le (allE_has hal) (by omega)
    unfold wrES seal_
    rw [List.length_append]
    have : (le4 (Crc.crc (wrE l))).length = 4 := rfl
    omega
  · cases h
theorem one_mapE {l : List El} {b : En} (h : l.map El.p = [b]) : ∃ a, l = [a] ∧ a.p = b := by
  match l, h with
  | [a], h => exact ⟨a, rfl, by simpa using h⟩
theorem enR_one {w : World} {B2 : Nat} {A SA : Option Addr} {c sc : Nat} {x : En} (h1 : Rd w B2 6 A 1 c (elV ⟨x, SA, sc⟩)) (h2 : Rd w B2 10 SA x.stats.length sc (stsV x.stats)) : EnR w B2 A c [⟨x, SA, sc⟩] := ⟨by simpa [elsV] using h1, fun y hy => by obtain rfl := List.mem_singleton.1 hy; exact h2⟩
set_option maxRecDepth 100000 in
set_option maxHeartbeats 4000000 in
theorem alive13 (w : World) (ht : Table w) : Calls Tryd.prog 8 #[] w fun e w' => e = .returned (.bool true) ∧ Below w.heap.size w w' := by
  have HT := hide ht
  have hpos := ht.pos
  clear ht
  have l0 : Rd (w.alloc (.cells #[.int .i64 1, .int .i64 1, .bool false, .bool false, .int .u8 0, .int .i64 0, .string ⟨#[]⟩, .int .u8 0, .int .i64 0, .string ⟨#[]⟩] 53)) (w.heap.size + 1) 10 (some ⟨w.heap.size, 0, none⟩) 1 1 (stsV [stx]) := Rd.lit w (n := 1) (sz := 10) 53 #[.int .i64 1, .int .i64 1, .bool false, .bool false, .int .u8 0, .int .i64 0, .string ⟨#[]⟩, .int .u8 0, .int .i64 0, .string ⟨#[]⟩] rfl (by unfold maxLen; omega)
  have hb0 := (Below.refl w.heap.size w).alloc (Nat.le_refl _) (.cells #[.int .i64 1, .int .i64 1, .bool false, .bool false, .int .u8 0, .int .i64 0, .string ⟨#[]⟩, .int .u8 0, .int .i64 0, .string ⟨#[]⟩] 53)
  have z0 : (w.alloc (.cells #[.int .i64 1, .int .i64 1, .bool false, .bool false, .int .u8 0, .int .i64 0, .string ⟨#[]⟩, .int .u8 0, .int .i64 0, .string ⟨#[]⟩] 53)).heap.size = w.heap.size + 1 := by simp
  go_enter Tryd.func8, Tryd.ntmps8
  go_upto_region 2 with fail
  generalize w.alloc (.cells #[.int .i64 1, .int .i64 1, .bool false, .bool false, .int .u8 0, .int .i64 0, .string ⟨#[]⟩, .int .u8 0, .int .i64 0, .string ⟨#[]⟩] 53) = wa at *
  have y := boxN_new wa #[.string ⟨#[100, 49]⟩, .bool false, .int .u64 1, .int .i64 1, .int .u32 1, .slice (some ⟨w.heap.size, 0, none⟩) 1 1] 36
  have hbA := (Below.refl wa.heap.size wa).alloc (Nat.le_refl _) (.cells #[.string ⟨#[100, 49]⟩, .bool false, .int .u64 1, .int .i64 1, .int .u32 1, .slice (some ⟨w.heap.size, 0, none⟩) 1 1] 36)
  have hb1 := below_call hb0 hb0.size hbA
  rw [← z0] at l0
  have l1 := (l0.below hbA).more hbA.size
  have zA : (wa.alloc (.cells #[.string ⟨#[100, 49]⟩, .bool false, .int .u64 1, .int .i64 1, .int .u32 1, .slice (some ⟨w.heap.size, 0, none⟩) 1 1] 36)).heap.size = wa.heap.size + 1 := by simp
  rw [z0] at y zA
  generalize wa.alloc (.cells #[.string ⟨#[100, 49]⟩, .bool false, .int .u64 1, .int .i64 1, .int .u32 1, .slice (some ⟨w.heap.size, 0, none⟩) 1 1] 36) = wb at *
  clear hb0 l0 hbA z0
  clear wa
  have u0 := y.cell 0 _ rfl
  have u1 := y.cell 1 _ rfl
  have u2 := y.cell 2 _ rfl
  have u3 := y.cell 3 _ rfl
  have u4 := y.cell 4 _ rfl
  have u5 := y.cell 5 _ rfl
  go_wp2_with fail
  have l2 : Rd (wb.alloc (.cells #[.string ⟨#[100, 49]⟩, .bool false, .int .u64 1, .int .i64 1, .int .u32 1, .slice (some ⟨w.heap.size, 0, none⟩) 1 1] 36)) (wb.heap.size + 1) 6 (some ⟨wb.heap.size, 0, none⟩) 1 1 (elV ⟨enx, some ⟨w.heap.size, 0, none⟩, 1⟩) := Rd.lit wb (n := 1) (sz := 6) 36 #[.string ⟨#[100, 49]⟩, .bool false, .int .u64 1, .int .i64 1, .int .u32 1, .slice (some ⟨w.heap.size, 0, none⟩) 1 1] rfl (by unfold maxLen; omega)
  have hbB := (Below.refl wb.heap.size wb).alloc (Nat.le_refl _) (.cells #[.string ⟨#[100, 49]⟩, .bool false, .int .u64 1, .int .i64 1, .int .u32 1, .slice (some ⟨w.heap.size, 0, none⟩) 1 1] 36)
  have zB : (wb.alloc (.cells #[.string ⟨#[100, 49]⟩, .bool false, .int .u64 1, .int .i64 1, .int .u32 1, .slice (some ⟨w.heap.size, 0, none⟩) 1 1] 36)).heap.size = wb.heap.size + 1 := by simp
  have hb2 := below_call hb1 hb1.size hbB
  have l3 := (l1.below hbB).more hbB.size
  have y2 := y.keep hbB y.z
  rw [← zB] at l2
  have R2 := enR_one l2 l3
  generalize wb.alloc (.cells #[.string ⟨#[100, 49]⟩, .bool false, .int .u64 1, .int .i64 1, .int .u32 1, .slice (some ⟨w.heap.size, 0, none⟩) 1 1] 36) = wc at *
  clear l2 hbB l1 hb1 y u0 u1 u2 u3 u4 u5
  have hW : Calls Tryd.prog 10 #[.slice (some ⟨wb.heap.size, 0, none⟩) 1 1] wc (WrEndE wc [enx]) := entWriteL wc (some ⟨wb.heap.size, 0, none⟩) 1 [⟨enx, some ⟨w.heap.size, 0, none⟩, 1⟩] [enx] rfl R2 (HT.out.below hb2 hpos)
  rw [zA] at hW
  refine hW.mono ?_
  rintro e w3 ⟨hb3, (⟨_, v3, rfl, hown3⟩ | ⟨her, rfl⟩)⟩
  rotate_left 1
  · exact absurd errE_x her
  obtain ⟨A3, c3, rfl⟩ := own_slice hown3
  have hr3 := rd_own hown3
  have hB3 := below_call hb2 hb2.size hb3
  have y3 := y2.keep hb3 y2.z
  have l4 := (l3.below hb3).more hb3.size
  have HXL := hide (wrES_len errE_x)
  have HOP := hide opE_x
  clear hW R2 y2 hb2 hown3 l3
  generalize wrES [enx] = L at *
  go_wp2_with fail
  refine (entOpen w3 A3 c3 _ hr3 (HT.out.below hB3 hpos) HXL.out).mono ?_
  rintro e w4 ⟨hb4, lA, lc, ls, rfl, hls, h64, hO⟩
  rw [HOP.out] at hls ⊢
  obtain ⟨z, rfl, hz⟩ := one_mapE hls
  have hB4 := below_call hB3 hB3.size hb4
  have y4 := y3.keep hb4 y3.z
  have R4 := hO.rd
  have l5 := (l4.below hb4).more hb4.size
  clear hls h64 hO y3 hB3 hr3 l4
  go_wp2_with fail
  have hW : Calls Tryd.prog 10 #[.slice none 0 0] w4 (WrEndE w4 []) := entWriteL w4 none 0 [] [] rfl ⟨Rd.nil _ _ _, by simp⟩ (HT.out.below hB4 hpos)
  refine hW.mono ?_
  rintro e w5 ⟨hb5, (⟨_, v5, rfl, hown5⟩ | ⟨her, rfl⟩)⟩
  rotate_left 1
  · exact absurd errE_0 her
  obtain ⟨A5, c5, rfl⟩ := own_slice hown5
  have hr5 := rd_own hown5
  have hB5 := below_call hB4 hB4.size hb5
  have y5 := y4.keep hb5 y4.z
  have R5 := (R4.below hb5).more hb5.size
  have l6 := (l5.below hb5).more hb5.size
  have u0 := y5.cell 0 _ rfl
  have u1 := y5.cell 1 _ rfl
  have u2 := y5.cell 2 _ rfl
  have u3 := y5.cell 3 _ rfl
  have u4 := y5.cell 4 _ rfl
  have u5 := y5.cell 5 _ rfl
  have HR5 := hide hr5
  have H4 := hide wrES_0len
  have H5 := hide wrES_0
  clear hW y4 hB4 hr5 hown5 R4 l5
  generalize wrES [] = wr0 at *
  go_wp2_with fail
  have l7 : Rd (w5.alloc (.cells #[.string ⟨#[100, 49]⟩, .bool false, .int .u64 1, .int .i64 1, .int .u32 1, .slice (some ⟨w.heap.size, 0, none⟩) 1 1] 36)) (w5.heap.size + 1) 6 (some ⟨w5.heap.size, 0, none⟩) 1 1 (elV ⟨enx, some ⟨w.heap.size, 0, none⟩, 1⟩) := Rd.lit w5 (n := 1) (sz := 6) 36 #[.string ⟨#[100, 49]⟩, .bool false, .int .u64 1, .int .i64 1, .int .u32 1, .slice (some ⟨w.heap.size, 0, none⟩) 1 1] rfl (by unfold maxLen; omega)
  have hb6 := (Below.refl w5.heap.size w5).alloc (Nat.le_refl _) (.cells #[.string ⟨#[100, 49]⟩, .bool false, .int .u64 1, .int .i64 1, .int .u32 1, .slice (some ⟨w.heap.size, 0, none⟩) 1 1] 36)
  have z6 : (w5.alloc (.cells #[.string ⟨#[100, 49]⟩, .bool false, .int .u64 1, .int .i64 1, .int .u32 1, .slice (some ⟨w.heap.size, 0, none⟩) 1 1] 36)).heap.size = w5.heap.size + 1 := by simp
  have hB6 := below_call hB5 hB5.size hb6
  have R6 := (R5.below hb6).more hb6.size
  have l8 := (l6.below hb6).more hb6.size
  have hr6 := (HR5.out.below hb6).more hb6.size
  rw [← z6] at l7
  have R7 := enR_one l7 l8
  generalize w5.alloc (.cells #[.string ⟨#[100, 49]⟩, .bool false, .int .u64 1, .int .i64 1, .int .u32 1, .slice (some ⟨w.heap.size, 0, none⟩) 1 1] 36) = w6 at *
  clear l7 hb6 l6 R5 y5 u0 u1 u2 u3 u4 u5 hb5 hb4 hb3 HR5
  have hS : Calls Tryd.prog 16 #[.slice lA 1 lc, .slice (some ⟨w5.heap.size, 0, none⟩) 1 1] w6 (RetVal w6 (.bool true)) := refSame13 w6 lA (some ⟨w5.heap.size, 0, none⟩) lc 1 [z] [⟨enx, some ⟨w.heap.size, 0, none⟩, 1⟩] R6 R7 (by rw [List.map_cons, List.map_nil, hz]; rfl)
  refine hS.mono ?_
  rintro e w7 ⟨rfl, hb7⟩
  have hB7 := below_call hB6 hB6.size hb7
  have hr7 := (hr6.below hb7).more hb7.size
  have hcap := hr7.le
  have v1 := fun k W => run_cut_hi (P := Tryd.prog) tyBytes A5 wr0.length c5 k (4 : Int) 4 rfl (by have := H4.out; omega) W
  have v2 := fun k W => cut_hi (P := Tryd.prog) tyBytes A5 wr0.length c5 k (4 : Int) 4 rfl (by have := H4.out; omega) W
  have hpre : Rd w7 w7.heap.size 1 A5 4 c5 (bytesV (wr0.take 4)) := by
    have := hr7.pre (hi := 4) (by have := H4.out; omega)
    simpa [bytesV, List.map_take] using this
  rw [H5.out] at hpre
  have hstr := run_str (P := Tryd.prog) w7 Tryd.underlying25 Tryd.underlying5 Tryd.underlying9 hpre
  clear hS R6 R7 l8 hr6 hpre hr7 hcap
  go_wp2_with fail
  have hz7 : Calls Tryd.prog 12 #[.agg #[.string ⟨#[100, 49]⟩, .bool false, .int .u64 0, .int .i64 0, .int .u32 1, .slice none 0 0]] w7 (RetVal w7 (.bool false)) := by
    have := entRight w7 enz none 0 (Rd.nil _ _ _)
    rw [right_z] at this
    exact this
  refine hz7.mono ?_
  rintro e w8 ⟨rfl, hb8⟩
  clear hz7
  go_wp2_with fail
  go_ret
  exact ⟨rfl, below_call hB7 hB7.size hb8⟩
end Go.Proofs.YtbcnekaagkdmeaaDoor
