/-
  NARROWER THAN 'FOR EVERY INPUT', by the rows' own cells (each row's printed sentence says how): EntryWrites: laid · EntryBack: laid · EntryOpens: laid · EntrySpoilt: laid · EntryMerges: laid.
  DERIVED. THE GIVEN ROWS OF THIS SEAT. 5 by the template 'for every input the law returns true; each argument reads behind the call as it read before'; 0 by the template 'total and deterministic' (their statements: YtbcnekaagkdmeaaDoorTotals.lean).
  GIVEN WITH THE SEED: the statements are not yours to turn. If you find one false, say at which input.
  Laid BY PROGRAM, IN A SANDBOX (cutbox-rows.mjs): the forced cells as the released guide's own fill.sh prints them over the translation 2046428ba438e63c… (all of the seat's roots in one cut). By AI agents, Wed Nov 11 2026. No macro, syntax, notation, axiom, sorry.
-/
import Derived.Test.YtbcnekaagkdmeaaDoorChecked
import GoSem.Claim
import GoSem.ClaimJoined
import GoSem.ClaimMapViews
import Derived.JoinedTies
import Derived.KernelRfl
namespace Go.Proofs.YtbcnekaagkdmeaaDoor
/- THE CELL 'sum', in the pinned program and in every row, IS THE sha256 OF THE DUMP (.gsa) THAT YtbcnekaagkdmeaaDoorProg.lean LOADS. Nothing in Lean hashes anything: it is a label: what it is worth is what the hold of that sum in a sandbox is worth. -/
noncomputable def Tryd.pinned : Pinned := { name := "ytbcnekaagkdmeaadoor", sum := "2046428ba438e63cb74e21b06a66acab6498c4513bdda537c73049f1e9006910", checked := Tryd.checked }
namespace Rows
def none {H : Type} : Left H := { results := [], args := [] }

/- WHAT THE LISTED PACKAGE-LEVEL VARIABLES READ AS WHEN THE CALL BEGINS. Each datum BY PROGRAM (the guide's laid-datum.mjs) off the statement by which the dump's own 'gosem.cut.vars' lays the variable. In a bare row this is a premise. The card (YtbcnekaagkdmeaaDoorCards.lean) ties it to the program's text. -/
def laid_catchment_crc_half {H : Type} : DataW H := .agg [.lit (.int .u32 0), .lit (.int .u32 498536548), .lit (.int .u32 997073096), .lit (.int .u32 651767980), .lit (.int .u32 1994146192), .lit (.int .u32 1802195444), .lit (.int .u32 1303535960), .lit (.int .u32 1342533948), .lit (.int .u32 3988292384), .lit (.int .u32 4027552580), .lit (.int .u32 3604390888), .lit (.int .u32 3412177804), .lit (.int .u32 2607071920), .lit (.int .u32 2262029012), .lit (.int .u32 2685067896), .lit (.int .u32 3183342108)]

/-- 'catchmentlaw13.EntryWrites': WHATEVER THE INPUT: true; the input reads as it did. -/
def entryWritesSpec : ChangeSpec := { name := "entryWrites", fn := fun _ => fun
  | [d] => { results := [.lit (.bool true)], args := [d] }
  | _ => none }
def entryWritesRow : OpenClaim := { program := "ytbcnekaagkdmeaadoor", sum := "2046428ba438e63cb74e21b06a66acab6498c4513bdda537c73049f1e9006910", func := "catchment/catchmentlaw13.EntryWrites", spec := "entryWrites", recurses := true, named := ["catchment/crc.half"], apart := false, laid := [("catchment/crc.half", laid_catchment_crc_half)] }
def EntryWritesSaid : Prop := entryWritesRow.holds Tryd.pinned (OpenSpec.ofChange entryWritesSpec)

/-- ITS FALSE NEIGHBOUR: 'it returns false'. Refute it at one input. -/
def entryWritesWrong : ChangeSpec := { name := "entryWrites", fn := fun _ => fun
  | [d] => { results := [.lit (.bool false)], args := [d] }
  | _ => none }
def EntryWritesWrongFalsely : Prop := entryWritesRow.holds Tryd.pinned (OpenSpec.ofChange entryWritesWrong)

/-- 'catchmentlaw13.EntryBack': WHATEVER THE INPUT: true; the input reads as it did. -/
def entryBackSpec : ChangeSpec := { name := "entryBack", fn := fun _ => fun
  | [d] => { results := [.lit (.bool true)], args := [d] }
  | _ => none }
def entryBackRow : OpenClaim := { program := "ytbcnekaagkdmeaadoor", sum := "2046428ba438e63cb74e21b06a66acab6498c4513bdda537c73049f1e9006910", func := "catchment/catchmentlaw13.EntryBack", spec := "entryBack", named := ["catchment/crc.half"], apart := false, laid := [("catchment/crc.half", laid_catchment_crc_half)] }
def EntryBackSaid : Prop := entryBackRow.holds Tryd.pinned (OpenSpec.ofChange entryBackSpec)

/-- ITS FALSE NEIGHBOUR: 'it returns false'. Refute it at one input. -/
def entryBackWrong : ChangeSpec := { name := "entryBack", fn := fun _ => fun
  | [d] => { results := [.lit (.bool false)], args := [d] }
  | _ => none }
def EntryBackWrongFalsely : Prop := entryBackRow.holds Tryd.pinned (OpenSpec.ofChange entryBackWrong)

/-- 'catchmentlaw13.EntryOpens': WHATEVER THE INPUT: true; the input reads as it did. -/
def entryOpensSpec : ChangeSpec := { name := "entryOpens", fn := fun _ => fun
  | [d1, d2] => { results := [.lit (.bool true)], args := [d1, d2] }
  | _ => none }
def entryOpensRow : OpenClaim := { program := "ytbcnekaagkdmeaadoor", sum := "2046428ba438e63cb74e21b06a66acab6498c4513bdda537c73049f1e9006910", func := "catchment/catchmentlaw13.EntryOpens", spec := "entryOpens", recurses := true, named := ["catchment/crc.half"], apart := false, laid := [("catchment/crc.half", laid_catchment_crc_half)] }
def EntryOpensSaid : Prop := entryOpensRow.holds Tryd.pinned (OpenSpec.ofChange entryOpensSpec)

/-- ITS FALSE NEIGHBOUR: 'it returns false'. Refute it at one input. -/
def entryOpensWrong : ChangeSpec := { name := "entryOpens", fn := fun _ => fun
  | [d1, d2] => { results := [.lit (.bool false)], args := [d1, d2] }
  | _ => none }
def EntryOpensWrongFalsely : Prop := entryOpensRow.holds Tryd.pinned (OpenSpec.ofChange entryOpensWrong)

/-- 'catchmentlaw13.EntrySpoilt': WHATEVER THE INPUT: true; the input reads as it did. -/
def entrySpoiltSpec : ChangeSpec := { name := "entrySpoilt", fn := fun _ => fun
  | [d1, d2, d3, d4] => { results := [.lit (.bool true)], args := [d1, d2, d3, d4] }
  | _ => none }
def entrySpoiltRow : OpenClaim := { program := "ytbcnekaagkdmeaadoor", sum := "2046428ba438e63cb74e21b06a66acab6498c4513bdda537c73049f1e9006910", func := "catchment/catchmentlaw13.EntrySpoilt", spec := "entrySpoilt", recurses := true, named := ["catchment/crc.half"], apart := false, laid := [("catchment/crc.half", laid_catchment_crc_half)] }
def EntrySpoiltSaid : Prop := entrySpoiltRow.holds Tryd.pinned (OpenSpec.ofChange entrySpoiltSpec)

/-- ITS FALSE NEIGHBOUR: 'it returns false'. Refute it at one input. -/
def entrySpoiltWrong : ChangeSpec := { name := "entrySpoilt", fn := fun _ => fun
  | [d1, d2, d3, d4] => { results := [.lit (.bool false)], args := [d1, d2, d3, d4] }
  | _ => none }
def EntrySpoiltWrongFalsely : Prop := entrySpoiltRow.holds Tryd.pinned (OpenSpec.ofChange entrySpoiltWrong)

/-- 'catchmentlaw13.EntryMerges': WHATEVER THE INPUT: true; the input reads as it did. -/
def entryMergesSpec : ChangeSpec := { name := "entryMerges", fn := fun _ => fun
  | [d] => { results := [.lit (.bool true)], args := [d] }
  | _ => none }
def entryMergesRow : OpenClaim := { program := "ytbcnekaagkdmeaadoor", sum := "2046428ba438e63cb74e21b06a66acab6498c4513bdda537c73049f1e9006910", func := "catchment/catchmentlaw13.EntryMerges", spec := "entryMerges", named := ["catchment/crc.half"], apart := false, laid := [("catchment/crc.half", laid_catchment_crc_half)] }
def EntryMergesSaid : Prop := entryMergesRow.holds Tryd.pinned (OpenSpec.ofChange entryMergesSpec)

/-- ITS FALSE NEIGHBOUR: 'it returns false'. Refute it at one input. -/
def entryMergesWrong : ChangeSpec := { name := "entryMerges", fn := fun _ => fun
  | [d] => { results := [.lit (.bool false)], args := [d] }
  | _ => none }
def EntryMergesWrongFalsely : Prop := entryMergesRow.holds Tryd.pinned (OpenSpec.ofChange entryMergesWrong)

/- THE SECOND FORM. 'bulk': how many values and letters a reading holds, each counted each time it is reached (what is shared counts as often as it is met; a slice's spare places count too). A statement '..UptoSaid' is the law's where the arguments, and the package variables that the reading takes, are together of bulk at most 1048576: NARROWER than '..Said'. Prove '..Said' where nothing that the law and all that it calls make is longer than what came in: it says more and counts as full. Else prove '..UptoSaid'. A law counts once. -/
mutual
def uptoBulk {H : Type} : DataW H → Nat
  | .lit (.string bytes) => bytes.length + 1
  | .lit _ => 1
  | .nil => 1
  | .ptr d => uptoBulk d + 1
  | .slice elems spare => uptoBulkAll elems + uptoBulkAll spare + 1
  | .agg parts => uptoBulkAll parts + 1
  | .iface _ d => uptoBulk d + 1
  | .map entries => uptoBulkEntries entries + 1
  | .held _ => 1
def uptoBulkAll {H : Type} : List (DataW H) → Nat
  | [] => 0
  | d :: r => uptoBulk d + uptoBulkAll r
def uptoBulkEntries {H : Type} : List (Lit × DataW H) → Nat
  | [] => 0
  | x :: r => uptoBulkEntry x + uptoBulkEntries r
def uptoBulkEntry {H : Type} : Lit × DataW H → Nat
  | (.string bytes, d) => bytes.length + uptoBulk d + 1
  | (_, d) => uptoBulk d + 1
 end
def uptoSmall : (H : Type) → List (DataW H) → Bool := fun _ ds => decide (uptoBulkAll ds ≤ 1048576)
def OpenSpec.upto (s : _root_.Go.ChangeSpec) : _root_.Go.OpenSpec := { _root_.Go.OpenSpec.ofChange s with cond := some uptoSmall }

/-- 'catchmentlaw13.EntryWrites', WHERE WHAT IT READS IS OF BULK AT MOST 1048576: true; the input reads as it did. -/
def entryWritesUptoRow : OpenClaim := { program := "ytbcnekaagkdmeaadoor", sum := "2046428ba438e63cb74e21b06a66acab6498c4513bdda537c73049f1e9006910", func := "catchment/catchmentlaw13.EntryWrites", spec := "entryWrites", recurses := true, named := ["catchment/crc.half"], apart := false, laid := [("catchment/crc.half", laid_catchment_crc_half)], narrowed := true }
def EntryWritesUptoSaid : Prop := entryWritesUptoRow.holds Tryd.pinned (OpenSpec.upto entryWritesSpec)

/-- 'catchmentlaw13.EntryBack', WHERE WHAT IT READS IS OF BULK AT MOST 1048576: true; the input reads as it did. -/
def entryBackUptoRow : OpenClaim := { program := "ytbcnekaagkdmeaadoor", sum := "2046428ba438e63cb74e21b06a66acab6498c4513bdda537c73049f1e9006910", func := "catchment/catchmentlaw13.EntryBack", spec := "entryBack", named := ["catchment/crc.half"], apart := false, laid := [("catchment/crc.half", laid_catchment_crc_half)], narrowed := true }
def EntryBackUptoSaid : Prop := entryBackUptoRow.holds Tryd.pinned (OpenSpec.upto entryBackSpec)

/-- 'catchmentlaw13.EntryOpens', WHERE WHAT IT READS IS OF BULK AT MOST 1048576: true; the input reads as it did. -/
def entryOpensUptoRow : OpenClaim := { program := "ytbcnekaagkdmeaadoor", sum := "2046428ba438e63cb74e21b06a66acab6498c4513bdda537c73049f1e9006910", func := "catchment/catchmentlaw13.EntryOpens", spec := "entryOpens", recurses := true, named := ["catchment/crc.half"], apart := false, laid := [("catchment/crc.half", laid_catchment_crc_half)], narrowed := true }
def EntryOpensUptoSaid : Prop := entryOpensUptoRow.holds Tryd.pinned (OpenSpec.upto entryOpensSpec)

/-- 'catchmentlaw13.EntrySpoilt', WHERE WHAT IT READS IS OF BULK AT MOST 1048576: true; the input reads as it did. -/
def entrySpoiltUptoRow : OpenClaim := { program := "ytbcnekaagkdmeaadoor", sum := "2046428ba438e63cb74e21b06a66acab6498c4513bdda537c73049f1e9006910", func := "catchment/catchmentlaw13.EntrySpoilt", spec := "entrySpoilt", recurses := true, named := ["catchment/crc.half"], apart := false, laid := [("catchment/crc.half", laid_catchment_crc_half)], narrowed := true }
def EntrySpoiltUptoSaid : Prop := entrySpoiltUptoRow.holds Tryd.pinned (OpenSpec.upto entrySpoiltSpec)

/-- 'catchmentlaw13.EntryMerges', WHERE WHAT IT READS IS OF BULK AT MOST 1048576: true; the input reads as it did. -/
def entryMergesUptoRow : OpenClaim := { program := "ytbcnekaagkdmeaadoor", sum := "2046428ba438e63cb74e21b06a66acab6498c4513bdda537c73049f1e9006910", func := "catchment/catchmentlaw13.EntryMerges", spec := "entryMerges", named := ["catchment/crc.half"], apart := false, laid := [("catchment/crc.half", laid_catchment_crc_half)], narrowed := true }
def EntryMergesUptoSaid : Prop := entryMergesUptoRow.holds Tryd.pinned (OpenSpec.upto entryMergesSpec)

end Rows
end Go.Proofs.YtbcnekaagkdmeaaDoor
