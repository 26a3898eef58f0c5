/- THE FRAME OVER THE EIGHT LISTED VARIABLES: what the walks are told of them; a world for the witness; arguments that are lists of bools, of drafts. No statement of the seat is proved here; no condition. -/
import Derived.Test.YtpfofefecamkfaaGreatDoorCtG
import Derived.Test.YtpfofefecamkfaaGreatDoorH0
import Derived.Test.YtpfofefecamkfaaGreatDoorRows
import Derived.Lib.LaidU8
import Derived.Lay
import Derived.MakeChecks
import Derived.Deep.DeepWitnessRowRef
namespace Go.Proofs.YtpfofefecamkfaaGreatDoor
open Go.ChangeShapes Go.WideShapes Go.ChangeAt Go.RowKit Go.Deep Go.Joins

theorem iface_of_trod {H:Type} {enc:TypeId × Value → H} {P:Program} {w:World} {base:Nat} {sp:Nat → Bool} {held:Bool} {fuel:Nat} {t:TypeId} {ms:Array (String × TypeId)} {cs:List Value} {nm:String} {d:DataW H} {p:List MemPlace}
 (ht:P.underlying t = some (.interface ms)) (h:DataW.trod enc P w base sp held fuel t cs = some (.iface nm d,p)):∃ tp v,cs = [.iface tp v]:=by
 cases fuel with
 | zero => simp [DataW.trod] at h
 | succ fuel =>
   unfold DataW.trod at h
   rw [ht] at h
   split at h
   all_goals first | exact ⟨_,_,rfl⟩ | (simp_all;done) | (simp at h;done)
theorem tyErr:(Tryz.prog.globals[2]?).map (·.type) = some 230:=by kernel_rfl
theorem tyPow:(Tryz.prog.globals[3]?).map (·.type) = some 329:=by kernel_rfl
theorem tyTab:(Tryz.prog.globals[0]?).map (·.type) = some 313:=by kernel_rfl
theorem gTab:Tryz.prog.globalNamed "catchment/crc.half" = some 0:=by kernel_rfl
def nums16:List Int:=[0,498536548,997073096,651767980,1994146192,1802195444,1303535960,1342533948,3988292384,4027552580,3604390888,3412177804,2607071920,2262029012,2685067896,3183342108]
theorem nums16_tab:∀ j,j < 16 → nums16.getD j 0 = ((Crc.tab j).toNat:Int):=by decide
theorem pow_tab:Rows.laid_internal_strconv_uint64pow10 (H:=Unit) = Lib.tabData .u64 Lib.pow10Tab:=by
 unfold Rows.laid_internal_strconv_uint64pow10 Lib.tabData Lib.pow10Tab
 rfl
theorem tabs_of {W:World} (h:laidMetH Tryz.prog Rows.catalogOthersRow.laid W):Tabs W:=by
 rw [MakeChecks.laidMetH_plain _ _ _ (by kernel_rfl)] at h
 have hm:("catchment/crc.half",Rows.laid_catchment_crc_half (H:=Unit)) ∈ Rows.catalogOthersRow.laid:=.tail _ (.tail _ (.tail _ (.tail _ (.head _))))
 have hp:("internal/strconv.uint64pow10",Rows.laid_internal_strconv_uint64pow10 (H:=Unit)) ∈ Rows.catalogOthersRow.laid:=.tail _ (.tail _ (.head _))
 have hr:("strconv.ErrRange",Rows.laid_strconv_ErrRange (H:=Unit)) ∈ Rows.catalogOthersRow.laid:=.tail _ (.tail _ (.tail _ (.tail _ (.tail _ (.head _)))))
 have hs:("math/bits.deBruijn64tab",Rows.laid_math_bits_deBruijn64tab (H:=Unit)) ∈ Rows.catalogOthersRow.laid:=.tail _ (.head _)
 refine ⟨?_,?_,?_,?_⟩
 ·obtain ⟨g,t,cs,fuel,p,hg,ht,hv,hd⟩:=Lib.laidMet.reads h hm
  obtain rfl:=Option.some.inj (gTab.symm.trans hg)
  obtain rfl:=Option.some.inj (tyTab.symm.trans ht)
  have e:cs.toList = nums16.map (Value.int .u32):=Lib.cells_of_tab Tryz.underlying313 Tryz.underlying30 (by kernel_rfl) (by kernel_rfl) hd
  intro j hj
  have h1:=World.var?_cell hg hv j
  refine h1.trans ?_
  rw [← Array.getElem?_toList,e,List.getElem?_map,List.getElem?_eq_getElem (show j < nums16.length from hj), ← nums16_tab j hj]
  simp [List.getD,List.getElem?_eq_getElem (show j < nums16.length from hj)]
 ·obtain ⟨g,t,cs,fuel,p,hg,ht,hv,hd⟩:=Lib.laidMet.reads h hp
  obtain rfl:=Option.some.inj (gPow.symm.trans hg)
  obtain rfl:=Option.some.inj (tyPow.symm.trans ht)
  rw [pow_tab] at hd
  have e:cs.toList = Lib.pow10Tab.map (Value.int .u64):=Lib.cells_of_tab Tryz.underlying329 Tryz.underlying35 (by kernel_rfl) (by kernel_rfl) hd
  unfold Lib.TabIs
  rw [hv, ← e]
 ·obtain ⟨g,t,cs,fuel,p,hg,ht,hv,hd⟩:=Lib.laidMet.reads h hr
  obtain rfl:=Option.some.inj (gRng.symm.trans hg)
  obtain rfl:=Option.some.inj (tyErr.symm.trans ht)
  obtain ⟨tp,v,e⟩:=iface_of_trod Tryz.underlying230 hd
  refine ⟨tp,v,?_⟩
  rw [hv, ← Array.toArray_toList (xs:=cs),e]
 ·obtain ⟨g,t,cs,fuel,p,hg,ht,hv,hd⟩:=Lib.laidMet.reads h hs
  obtain rfl:=Option.some.inj ((show Tryz.prog.globalNamed "math/bits.deBruijn64tab" = some 8 by kernel_rfl).symm.trans hg)
  unfold World.var? at hv
  rw [hg,Option.bind_some] at hv
  rcases Nat.lt_or_ge 8 W.heap.size with hl | hl
  ·exact hl
  ·rw [Array.getElem?_eq_none hl] at hv
   cases hv
theorem laid_at (os:Os) (args:Array Value):laidMet Tryz.prog Rows.catalogOthersRow.laid ((World.laidAll Tryz.prog os Rows.catalogOthersRow.laid).forCall (fun _ _ => 0) ⟨#[],args,[]⟩).memory :=
 laidMet_laidAll args (by kernel_rfl) (by kernel_rfl)
end Go.Proofs.YtpfofefecamkfaaGreatDoor
