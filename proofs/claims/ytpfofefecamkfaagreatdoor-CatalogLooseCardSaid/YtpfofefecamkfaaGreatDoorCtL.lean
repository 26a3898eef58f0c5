/- PLAIN: a store without faults, in which nothing is loose; a new store in a world. No statement of the seat is proved here; no condition. -/
import Derived.Test.YtpfofefecamkfaaGreatDoorCtO
import Derived.Test.YtpfofefecamkfaaGreatDoorH0
namespace Go.Proofs.YtpfofefecamkfaaGreatDoor
set_option maxRecDepth 100000
open Go.RowKit

/-- a new store -/
theorem newStore (w:World) (hT:Tabs w) (q:Int) (q0 : -9223372036854775808 ≤ q) (q1:q ≤ 9223372036854775807):Calls Tryz.prog 9 #[.int .i64 q] w fun e w' => ∃ sb mb,e = .returned (.pointer (some ⟨sb,0,none⟩)) ∧ w.heap.size ≤ sb ∧ w.heap.size ≤ mb ∧ Env (Ms sb mb) w' sb mb 0 (So.new q) ∧ Below w.heap.size w w':=by
 have hz:=hT.z
 refine (objNew (fun k => ¬ Ms (w.heap.size + 1) w.heap.size k) w q q0 q1 (fun k hk => ?_)).mono ?_
 ·unfold Ms at hk
  omega
 rintro e w' ⟨rfl,hS,hb,hz2⟩
 refine ⟨_,_,rfl,by omega,by omega,⟨⟨0,Nat.le_refl _,hS⟩,.inl rfl,.inr rfl,fun k hk => ?_,fun k hk => ?_,hT.low hb,fit_new q⟩,hb⟩
 ·rcases hk with rfl | rfl <;> omega
 ·rcases hk with rfl | rfl <;> omega
/-- the document's schema, in a row of the call's own -/
theorem lawTwo2 (w:World):Calls Tryz.prog 11 #[] w fun e w' => ∃ A c,e = .returned (.agg #[.int .u32 1,.slice A 2 c]) ∧ RdQ w' (fun k => w.heap.size ≤ k) 4 A 2 c (fdsV two) ∧ Below w.heap.size w w':=by
 go_enter Tryz.func11,Tryz.ntmps11
 go_wp2_with fail
 have x1:=box_new w #[.int .u32 1,.slice (some ⟨w.heap.size + 1,0,none⟩) 2 2] 33
 generalize hwa:w.alloc (.cells #[.int .u32 1,.slice (some ⟨w.heap.size + 1,0,none⟩) 2 2] 33) = wa at *
 have hb:=(Below.refl wa.heap.size wa).alloc (Nat.le_refl _) (.cells #[.int .u32 1,.string ⟨#[105,100]⟩,.int .u8 1,.bool true,.int .u32 2,.string ⟨#[110,97,109,101]⟩,.int .u8 3,.bool false] 89)
 have hl:=Rd.lit wa (n:=2) (sz:=4) 89 #[.int .u32 1,.string ⟨#[105,100]⟩,.int .u8 1,.bool true,.int .u32 2,.string ⟨#[110,97,109,101]⟩,.int .u8 3,.bool false] rfl (by decide)
 have hz:=x1.size
 generalize hwb:wa.alloc (.cells #[.int .u32 1,.string ⟨#[105,100]⟩,.int .u8 1,.bool true,.int .u32 2,.string ⟨#[110,97,109,101]⟩,.int .u8 3,.bool false] 89) = w2 at *
 obtain ⟨cs,_,zs,hb2⟩:=x1.lift hb
 (try simp only [Exit.inBlock,Exit.then])
 refine bodyPost_ret (ret_sch1 (b:=w.heap.size) (x:=.int .u32 1) (y:=.slice (some ⟨w.heap.size + 1,0,none⟩) 2 2) rfl _ _ rfl (cs 0 _ rfl) (cs 1 _ rfl)) rfl ?_
 refine ⟨some ⟨w.heap.size + 1,0,none⟩,2,rfl,?_,hb2⟩
 rw [← hz]
 have hw2:wa.heap.size + 1 ≤ w2.heap.size:=by rw [← hwb];simp
 exact ⟨hl.more hw2,fun _ => ⟨_,_,rfl,by omega⟩⟩
end Go.Proofs.YtpfofefecamkfaaGreatDoor
