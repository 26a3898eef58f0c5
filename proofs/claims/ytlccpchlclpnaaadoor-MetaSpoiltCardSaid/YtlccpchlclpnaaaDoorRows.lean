/-
  NARROWER THAN 'FOR EVERY INPUT', by the rows' own cells (each row's printed sentence says how): MetaOwn: laid · MetaWrites: laid · MetaOpens: laid · MetaSpoilt: laid.
  DERIVED. THE GIVEN ROWS OF THIS SEAT. 4 by the template 'for every input the law returns true; each argument reads behind the call as it read before'; 0 by the template 'total and deterministic' (their statements: YtlccpchlclpnaaaDoorTotals.lean).
  GIVEN WITH THE SEED: the statements are not yours to turn. If you find one false, say at which input.
  Laid BY PROGRAM, IN A SANDBOX (cutbox-rows.mjs): the forced cells as the released guide's own fill.sh prints them over the translation 826667a212f9eaca… (all of the seat's roots in one cut). By AI agents, Wed Nov 11 2026. No macro, syntax, notation, axiom, sorry.
-/
import Derived.Test.YtlccpchlclpnaaaDoorChecked
import GoSem.Claim
import GoSem.ClaimJoined
import GoSem.ClaimMapViews
import Derived.JoinedTies
import Derived.KernelRfl
namespace Go.Proofs.YtlccpchlclpnaaaDoor
/- THE CELL 'sum', in the pinned program and in every row, IS THE sha256 OF THE DUMP (.gsa) THAT YtlccpchlclpnaaaDoorProg.lean LOADS. Nothing in Lean hashes anything: it is a label: what it is worth is what the hold of that sum in a sandbox is worth. -/
noncomputable def Tryd.pinned : Pinned := { name := "ytlccpchlclpnaaadoor", sum := "826667a212f9eacabdc27a8663282c0b2fcecd9b8cf111c20f18c07bbc5e5702", checked := Tryd.checked }
namespace Rows
def none {H : Type} : Left H := { results := [], args := [] }

/- WHAT THE LISTED PACKAGE-LEVEL VARIABLES READ AS WHEN THE CALL BEGINS. Each datum BY PROGRAM (the guide's laid-datum.mjs) off the statement by which the dump's own 'gosem.cut.vars' lays the variable. In a bare row this is a premise. The card (YtlccpchlclpnaaaDoorCards.lean) ties it to the program's text. -/
def laid_catchment_crc_half {H : Type} : DataW H := .agg [.lit (.int .u32 0), .lit (.int .u32 498536548), .lit (.int .u32 997073096), .lit (.int .u32 651767980), .lit (.int .u32 1994146192), .lit (.int .u32 1802195444), .lit (.int .u32 1303535960), .lit (.int .u32 1342533948), .lit (.int .u32 3988292384), .lit (.int .u32 4027552580), .lit (.int .u32 3604390888), .lit (.int .u32 3412177804), .lit (.int .u32 2607071920), .lit (.int .u32 2262029012), .lit (.int .u32 2685067896), .lit (.int .u32 3183342108)]

/-- 'catchmentlaw14.MetaOwn': WHATEVER THE INPUT: true; the input reads as it did. -/
def metaOwnSpec : ChangeSpec := { name := "metaOwn", fn := fun _ => fun
  | [d1, d2] => { results := [.lit (.bool true)], args := [d1, d2] }
  | _ => none }
def metaOwnRow : OpenClaim := { program := "ytlccpchlclpnaaadoor", sum := "826667a212f9eacabdc27a8663282c0b2fcecd9b8cf111c20f18c07bbc5e5702", func := "catchment/catchmentlaw14.MetaOwn", spec := "metaOwn", unfollowed := true, recurses := true, named := ["catchment/crc.half"], apart := false, laid := [("catchment/crc.half", laid_catchment_crc_half)] }
def MetaOwnSaid : Prop := metaOwnRow.holds Tryd.pinned (OpenSpec.ofChange metaOwnSpec)

/-- ITS FALSE NEIGHBOUR: 'it returns false'. Refute it at one input. -/
def metaOwnWrong : ChangeSpec := { name := "metaOwn", fn := fun _ => fun
  | [d1, d2] => { results := [.lit (.bool false)], args := [d1, d2] }
  | _ => none }
def MetaOwnWrongFalsely : Prop := metaOwnRow.holds Tryd.pinned (OpenSpec.ofChange metaOwnWrong)

/-- 'catchmentlaw14.MetaWrites': WHATEVER THE INPUT: true; the input reads as it did. -/
def metaWritesSpec : ChangeSpec := { name := "metaWrites", fn := fun _ => fun
  | [d] => { results := [.lit (.bool true)], args := [d] }
  | _ => none }
def metaWritesRow : OpenClaim := { program := "ytlccpchlclpnaaadoor", sum := "826667a212f9eacabdc27a8663282c0b2fcecd9b8cf111c20f18c07bbc5e5702", func := "catchment/catchmentlaw14.MetaWrites", spec := "metaWrites", unfollowed := true, recurses := true, named := ["catchment/crc.half"], apart := false, laid := [("catchment/crc.half", laid_catchment_crc_half)] }
def MetaWritesSaid : Prop := metaWritesRow.holds Tryd.pinned (OpenSpec.ofChange metaWritesSpec)

/-- ITS FALSE NEIGHBOUR: 'it returns false'. Refute it at one input. -/
def metaWritesWrong : ChangeSpec := { name := "metaWrites", fn := fun _ => fun
  | [d] => { results := [.lit (.bool false)], args := [d] }
  | _ => none }
def MetaWritesWrongFalsely : Prop := metaWritesRow.holds Tryd.pinned (OpenSpec.ofChange metaWritesWrong)

/-- 'catchmentlaw14.MetaOpens': WHATEVER THE INPUT: true; the input reads as it did. -/
def metaOpensSpec : ChangeSpec := { name := "metaOpens", fn := fun _ => fun
  | [d1, d2] => { results := [.lit (.bool true)], args := [d1, d2] }
  | _ => none }
def metaOpensRow : OpenClaim := { program := "ytlccpchlclpnaaadoor", sum := "826667a212f9eacabdc27a8663282c0b2fcecd9b8cf111c20f18c07bbc5e5702", func := "catchment/catchmentlaw14.MetaOpens", spec := "metaOpens", unfollowed := true, recurses := true, named := ["catchment/crc.half"], apart := false, laid := [("catchment/crc.half", laid_catchment_crc_half)] }
def MetaOpensSaid : Prop := metaOpensRow.holds Tryd.pinned (OpenSpec.ofChange metaOpensSpec)

/-- ITS FALSE NEIGHBOUR: 'it returns false'. Refute it at one input. -/
def metaOpensWrong : ChangeSpec := { name := "metaOpens", fn := fun _ => fun
  | [d1, d2] => { results := [.lit (.bool false)], args := [d1, d2] }
  | _ => none }
def MetaOpensWrongFalsely : Prop := metaOpensRow.holds Tryd.pinned (OpenSpec.ofChange metaOpensWrong)

/-- 'catchmentlaw14.MetaSpoilt': WHATEVER THE INPUT: true; the input reads as it did. -/
def metaSpoiltSpec : ChangeSpec := { name := "metaSpoilt", fn := fun _ => fun
  | [d1, d2, d3, d4] => { results := [.lit (.bool true)], args := [d1, d2, d3, d4] }
  | _ => none }
def metaSpoiltRow : OpenClaim := { program := "ytlccpchlclpnaaadoor", sum := "826667a212f9eacabdc27a8663282c0b2fcecd9b8cf111c20f18c07bbc5e5702", func := "catchment/catchmentlaw14.MetaSpoilt", spec := "metaSpoilt", unfollowed := true, recurses := true, named := ["catchment/crc.half"], apart := false, laid := [("catchment/crc.half", laid_catchment_crc_half)] }
def MetaSpoiltSaid : Prop := metaSpoiltRow.holds Tryd.pinned (OpenSpec.ofChange metaSpoiltSpec)

/-- ITS FALSE NEIGHBOUR: 'it returns false'. Refute it at one input. -/
def metaSpoiltWrong : ChangeSpec := { name := "metaSpoilt", fn := fun _ => fun
  | [d1, d2, d3, d4] => { results := [.lit (.bool false)], args := [d1, d2, d3, d4] }
  | _ => none }
def MetaSpoiltWrongFalsely : Prop := metaSpoiltRow.holds Tryd.pinned (OpenSpec.ofChange metaSpoiltWrong)

/- THE SECOND FORM. 'bulk': how many values and letters a reading holds, each counted each time it is reached (what is shared counts as often as it is met; a slice's spare places count too). A statement '..UptoSaid' is the law's where the arguments, and the package variables that the reading takes, are together of bulk at most 1048576: NARROWER than '..Said'. Prove '..Said' where nothing that the law and all that it calls make is longer than what came in: it says more and counts as full. Else prove '..UptoSaid'. A law counts once. -/
mutual
def uptoBulk {H : Type} : DataW H → Nat
  | .lit (.string bytes) => bytes.length + 1
  | .lit _ => 1
  | .nil => 1
  | .ptr d => uptoBulk d + 1
  | .slice elems spare => uptoBulkAll elems + uptoBulkAll spare + 1
  | .agg parts => uptoBulkAll parts + 1
  | .iface _ d => uptoBulk d + 1
  | .map entries => uptoBulkEntries entries + 1
  | .held _ => 1
def uptoBulkAll {H : Type} : List (DataW H) → Nat
  | [] => 0
  | d :: r => uptoBulk d + uptoBulkAll r
def uptoBulkEntries {H : Type} : List (Lit × DataW H) → Nat
  | [] => 0
  | x :: r => uptoBulkEntry x + uptoBulkEntries r
def uptoBulkEntry {H : Type} : Lit × DataW H → Nat
  | (.string bytes, d) => bytes.length + uptoBulk d + 1
  | (_, d) => uptoBulk d + 1
 end
def uptoSmall : (H : Type) → List (DataW H) → Bool := fun _ ds => decide (uptoBulkAll ds ≤ 1048576)
def OpenSpec.upto (s : _root_.Go.ChangeSpec) : _root_.Go.OpenSpec := { _root_.Go.OpenSpec.ofChange s with cond := some uptoSmall }

/-- 'catchmentlaw14.MetaOwn', WHERE WHAT IT READS IS OF BULK AT MOST 1048576: true; the input reads as it did. -/
def metaOwnUptoRow : OpenClaim := { program := "ytlccpchlclpnaaadoor", sum := "826667a212f9eacabdc27a8663282c0b2fcecd9b8cf111c20f18c07bbc5e5702", func := "catchment/catchmentlaw14.MetaOwn", spec := "metaOwn", unfollowed := true, recurses := true, named := ["catchment/crc.half"], apart := false, laid := [("catchment/crc.half", laid_catchment_crc_half)], narrowed := true }
def MetaOwnUptoSaid : Prop := metaOwnUptoRow.holds Tryd.pinned (OpenSpec.upto metaOwnSpec)

/-- 'catchmentlaw14.MetaWrites', WHERE WHAT IT READS IS OF BULK AT MOST 1048576: true; the input reads as it did. -/
def metaWritesUptoRow : OpenClaim := { program := "ytlccpchlclpnaaadoor", sum := "826667a212f9eacabdc27a8663282c0b2fcecd9b8cf111c20f18c07bbc5e5702", func := "catchment/catchmentlaw14.MetaWrites", spec := "metaWrites", unfollowed := true, recurses := true, named := ["catchment/crc.half"], apart := false, laid := [("catchment/crc.half", laid_catchment_crc_half)], narrowed := true }
def MetaWritesUptoSaid : Prop := metaWritesUptoRow.holds Tryd.pinned (OpenSpec.upto metaWritesSpec)

/-- 'catchmentlaw14.MetaOpens', WHERE WHAT IT READS IS OF BULK AT MOST 1048576: true; the input reads as it did. -/
def metaOpensUptoRow : OpenClaim := { program := "ytlccpchlclpnaaadoor", sum := "826667a212f9eacabdc27a8663282c0b2fcecd9b8cf111c20f18c07bbc5e5702", func := "catchment/catchmentlaw14.MetaOpens", spec := "metaOpens", unfollowed := true, recurses := true, named := ["catchment/crc.half"], apart := false, laid := [("catchment/crc.half", laid_catchment_crc_half)], narrowed := true }
def MetaOpensUptoSaid : Prop := metaOpensUptoRow.holds Tryd.pinned (OpenSpec.upto metaOpensSpec)

/-- 'catchmentlaw14.MetaSpoilt', WHERE WHAT IT READS IS OF BULK AT MOST 1048576: true; the input reads as it did. -/
def metaSpoiltUptoRow : OpenClaim := { program := "ytlccpchlclpnaaadoor", sum := "826667a212f9eacabdc27a8663282c0b2fcecd9b8cf111c20f18c07bbc5e5702", func := "catchment/catchmentlaw14.MetaSpoilt", spec := "metaSpoilt", unfollowed := true, recurses := true, named := ["catchment/crc.half"], apart := false, laid := [("catchment/crc.half", laid_catchment_crc_half)], narrowed := true }
def MetaSpoiltUptoSaid : Prop := metaSpoiltUptoRow.holds Tryd.pinned (OpenSpec.upto metaSpoiltSpec)

end Rows
end Go.Proofs.YtlccpchlclpnaaaDoor
