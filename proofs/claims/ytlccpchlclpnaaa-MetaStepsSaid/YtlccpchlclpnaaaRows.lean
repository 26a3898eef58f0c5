/-
  No cell of these rows narrows 'for every input' (looked for: loops, veiled, ifaces, maps, wideKeys, modest, calm, conditions, laid).
  DERIVED. THE GIVEN ROWS OF THIS SEAT. 8 by the template 'for every input the law returns true; each argument reads behind the call as it read before'; 0 by the template 'total and deterministic' (their statements: YtlccpchlclpnaaaTotals.lean).
  GIVEN WITH THE SEED: the statements are not yours to turn. If you find one false, say at which input.
  Laid BY PROGRAM, IN A SANDBOX (cutbox-rows.mjs): the forced cells as the released guide's own fill.sh prints them over the translation e9ef8d5ac9348cc0… (all of the seat's roots in one cut). By AI agents, Wed Nov 11 2026. No macro, syntax, notation, axiom, sorry.
-/
import Derived.Test.YtlccpchlclpnaaaChecked
import GoSem.Claim
import GoSem.ClaimJoined
import GoSem.ClaimMapViews
import Derived.JoinedTies
import Derived.KernelRfl
namespace Go.Proofs.Ytlccpchlclpnaaa
/- THE CELL 'sum', in the pinned program and in every row, IS THE sha256 OF THE DUMP (.gsa) THAT YtlccpchlclpnaaaProg.lean LOADS. Nothing in Lean hashes anything: it is a label: what it is worth is what the hold of that sum in a sandbox is worth. -/
noncomputable def Try.pinned : Pinned := { name := "ytlccpchlclpnaaa", sum := "e9ef8d5ac9348cc0ec769a8b2002686854be96cf6acbf66e383d15169dcfc037", checked := Try.checked }
namespace Rows
def none {H : Type} : Left H := { results := [], args := [] }

/-- 'catchmentlaw08.SchemaChecks': WHATEVER THE INPUT: true; the input reads as it did. -/
def schemaChecksSpec : ChangeSpec := { name := "schemaChecks", fn := fun _ => fun
  | [d1, d2, d3] => { results := [.lit (.bool true)], args := [d1, d2, d3] }
  | _ => none }
def schemaChecksRow : OpenClaim := { program := "ytlccpchlclpnaaa", sum := "e9ef8d5ac9348cc0ec769a8b2002686854be96cf6acbf66e383d15169dcfc037", func := "catchment/catchmentlaw08.SchemaChecks", spec := "schemaChecks", unfollowed := true, recurses := true, apart := false }
def SchemaChecksSaid : Prop := schemaChecksRow.holds Try.pinned (OpenSpec.ofChange schemaChecksSpec)

/-- ITS FALSE NEIGHBOUR: 'it returns false'. Refute it at one input. -/
def schemaChecksWrong : ChangeSpec := { name := "schemaChecks", fn := fun _ => fun
  | [d1, d2, d3] => { results := [.lit (.bool false)], args := [d1, d2, d3] }
  | _ => none }
def SchemaChecksWrongFalsely : Prop := schemaChecksRow.holds Try.pinned (OpenSpec.ofChange schemaChecksWrong)

/-- 'catchmentlaw08.SchemaFits': WHATEVER THE INPUT: true; the input reads as it did. -/
def schemaFitsSpec : ChangeSpec := { name := "schemaFits", fn := fun _ => fun
  | [d1, d2, d3] => { results := [.lit (.bool true)], args := [d1, d2, d3] }
  | _ => none }
def schemaFitsRow : OpenClaim := { program := "ytlccpchlclpnaaa", sum := "e9ef8d5ac9348cc0ec769a8b2002686854be96cf6acbf66e383d15169dcfc037", func := "catchment/catchmentlaw08.SchemaFits", spec := "schemaFits", unfollowed := true, recurses := true, apart := false }
def SchemaFitsSaid : Prop := schemaFitsRow.holds Try.pinned (OpenSpec.ofChange schemaFitsSpec)

/-- ITS FALSE NEIGHBOUR: 'it returns false'. Refute it at one input. -/
def schemaFitsWrong : ChangeSpec := { name := "schemaFits", fn := fun _ => fun
  | [d1, d2, d3] => { results := [.lit (.bool false)], args := [d1, d2, d3] }
  | _ => none }
def SchemaFitsWrongFalsely : Prop := schemaFitsRow.holds Try.pinned (OpenSpec.ofChange schemaFitsWrong)

/-- 'catchmentlaw08.SchemaLifts': WHATEVER THE INPUT: true; the input reads as it did. -/
def schemaLiftsSpec : ChangeSpec := { name := "schemaLifts", fn := fun _ => fun
  | [d1, d2, d3] => { results := [.lit (.bool true)], args := [d1, d2, d3] }
  | _ => none }
def schemaLiftsRow : OpenClaim := { program := "ytlccpchlclpnaaa", sum := "e9ef8d5ac9348cc0ec769a8b2002686854be96cf6acbf66e383d15169dcfc037", func := "catchment/catchmentlaw08.SchemaLifts", spec := "schemaLifts", unfollowed := true, recurses := true, apart := false }
def SchemaLiftsSaid : Prop := schemaLiftsRow.holds Try.pinned (OpenSpec.ofChange schemaLiftsSpec)

/-- ITS FALSE NEIGHBOUR: 'it returns false'. Refute it at one input. -/
def schemaLiftsWrong : ChangeSpec := { name := "schemaLifts", fn := fun _ => fun
  | [d1, d2, d3] => { results := [.lit (.bool false)], args := [d1, d2, d3] }
  | _ => none }
def SchemaLiftsWrongFalsely : Prop := schemaLiftsRow.holds Try.pinned (OpenSpec.ofChange schemaLiftsWrong)

/-- 'catchmentlaw08.SchemaGrows': WHATEVER THE INPUT: true; the input reads as it did. -/
def schemaGrowsSpec : ChangeSpec := { name := "schemaGrows", fn := fun _ => fun
  | [d1, d2, d3, d4] => { results := [.lit (.bool true)], args := [d1, d2, d3, d4] }
  | _ => none }
def schemaGrowsRow : OpenClaim := { program := "ytlccpchlclpnaaa", sum := "e9ef8d5ac9348cc0ec769a8b2002686854be96cf6acbf66e383d15169dcfc037", func := "catchment/catchmentlaw08.SchemaGrows", spec := "schemaGrows", unfollowed := true, recurses := true, apart := false }
def SchemaGrowsSaid : Prop := schemaGrowsRow.holds Try.pinned (OpenSpec.ofChange schemaGrowsSpec)

/-- ITS FALSE NEIGHBOUR: 'it returns false'. Refute it at one input. -/
def schemaGrowsWrong : ChangeSpec := { name := "schemaGrows", fn := fun _ => fun
  | [d1, d2, d3, d4] => { results := [.lit (.bool false)], args := [d1, d2, d3, d4] }
  | _ => none }
def SchemaGrowsWrongFalsely : Prop := schemaGrowsRow.holds Try.pinned (OpenSpec.ofChange schemaGrowsWrong)

/-- 'catchmentlaw08.SchemaUnpacks': WHATEVER THE INPUT: true; the input reads as it did. -/
def schemaUnpacksSpec : ChangeSpec := { name := "schemaUnpacks", fn := fun _ => fun
  | [d] => { results := [.lit (.bool true)], args := [d] }
  | _ => none }
def schemaUnpacksRow : OpenClaim := { program := "ytlccpchlclpnaaa", sum := "e9ef8d5ac9348cc0ec769a8b2002686854be96cf6acbf66e383d15169dcfc037", func := "catchment/catchmentlaw08.SchemaUnpacks", spec := "schemaUnpacks", unfollowed := true, recurses := true, apart := false }
def SchemaUnpacksSaid : Prop := schemaUnpacksRow.holds Try.pinned (OpenSpec.ofChange schemaUnpacksSpec)

/-- ITS FALSE NEIGHBOUR: 'it returns false'. Refute it at one input. -/
def schemaUnpacksWrong : ChangeSpec := { name := "schemaUnpacks", fn := fun _ => fun
  | [d] => { results := [.lit (.bool false)], args := [d] }
  | _ => none }
def SchemaUnpacksWrongFalsely : Prop := schemaUnpacksRow.holds Try.pinned (OpenSpec.ofChange schemaUnpacksWrong)

/-- 'catchmentlaw08.SchemaPacks': WHATEVER THE INPUT: true; the input reads as it did. -/
def schemaPacksSpec : ChangeSpec := { name := "schemaPacks", fn := fun _ => fun
  | [d1, d2] => { results := [.lit (.bool true)], args := [d1, d2] }
  | _ => none }
def schemaPacksRow : OpenClaim := { program := "ytlccpchlclpnaaa", sum := "e9ef8d5ac9348cc0ec769a8b2002686854be96cf6acbf66e383d15169dcfc037", func := "catchment/catchmentlaw08.SchemaPacks", spec := "schemaPacks", unfollowed := true, recurses := true, apart := false }
def SchemaPacksSaid : Prop := schemaPacksRow.holds Try.pinned (OpenSpec.ofChange schemaPacksSpec)

/-- ITS FALSE NEIGHBOUR: 'it returns false'. Refute it at one input. -/
def schemaPacksWrong : ChangeSpec := { name := "schemaPacks", fn := fun _ => fun
  | [d1, d2] => { results := [.lit (.bool false)], args := [d1, d2] }
  | _ => none }
def SchemaPacksWrongFalsely : Prop := schemaPacksRow.holds Try.pinned (OpenSpec.ofChange schemaPacksWrong)

/-- 'catchmentlaw14.MetaFinds': WHATEVER THE INPUT: true; the input reads as it did. -/
def metaFindsSpec : ChangeSpec := { name := "metaFinds", fn := fun _ => fun
  | [d1, d2, d3] => { results := [.lit (.bool true)], args := [d1, d2, d3] }
  | _ => none }
def metaFindsRow : OpenClaim := { program := "ytlccpchlclpnaaa", sum := "e9ef8d5ac9348cc0ec769a8b2002686854be96cf6acbf66e383d15169dcfc037", func := "catchment/catchmentlaw14.MetaFinds", spec := "metaFinds", unfollowed := true, recurses := true, apart := false }
def MetaFindsSaid : Prop := metaFindsRow.holds Try.pinned (OpenSpec.ofChange metaFindsSpec)

/-- ITS FALSE NEIGHBOUR: 'it returns false'. Refute it at one input. -/
def metaFindsWrong : ChangeSpec := { name := "metaFinds", fn := fun _ => fun
  | [d1, d2, d3] => { results := [.lit (.bool false)], args := [d1, d2, d3] }
  | _ => none }
def MetaFindsWrongFalsely : Prop := metaFindsRow.holds Try.pinned (OpenSpec.ofChange metaFindsWrong)

/-- 'catchmentlaw14.MetaSteps': WHATEVER THE INPUT: true; the input reads as it did. -/
def metaStepsSpec : ChangeSpec := { name := "metaSteps", fn := fun _ => fun
  | [d1, d2, d3, d4] => { results := [.lit (.bool true)], args := [d1, d2, d3, d4] }
  | _ => none }
def metaStepsRow : OpenClaim := { program := "ytlccpchlclpnaaa", sum := "e9ef8d5ac9348cc0ec769a8b2002686854be96cf6acbf66e383d15169dcfc037", func := "catchment/catchmentlaw14.MetaSteps", spec := "metaSteps", unfollowed := true, recurses := true, apart := false }
def MetaStepsSaid : Prop := metaStepsRow.holds Try.pinned (OpenSpec.ofChange metaStepsSpec)

/-- ITS FALSE NEIGHBOUR: 'it returns false'. Refute it at one input. -/
def metaStepsWrong : ChangeSpec := { name := "metaSteps", fn := fun _ => fun
  | [d1, d2, d3, d4] => { results := [.lit (.bool false)], args := [d1, d2, d3, d4] }
  | _ => none }
def MetaStepsWrongFalsely : Prop := metaStepsRow.holds Try.pinned (OpenSpec.ofChange metaStepsWrong)

/- THE SECOND FORM. 'bulk': how many values and letters a reading holds, each counted each time it is reached (what is shared counts as often as it is met; a slice's spare places count too). A statement '..UptoSaid' is the law's where the arguments, and the package variables that the reading takes, are together of bulk at most 1048576: NARROWER than '..Said'. Prove '..Said' where nothing that the law and all that it calls make is longer than what came in: it says more and counts as full. Else prove '..UptoSaid'. A law counts once. -/
mutual
def uptoBulk {H : Type} : DataW H → Nat
  | .lit (.string bytes) => bytes.length + 1
  | .lit _ => 1
  | .nil => 1
  | .ptr d => uptoBulk d + 1
  | .slice elems spare => uptoBulkAll elems + uptoBulkAll spare + 1
  | .agg parts => uptoBulkAll parts + 1
  | .iface _ d => uptoBulk d + 1
  | .map entries => uptoBulkEntries entries + 1
  | .held _ => 1
def uptoBulkAll {H : Type} : List (DataW H) → Nat
  | [] => 0
  | d :: r => uptoBulk d + uptoBulkAll r
def uptoBulkEntries {H : Type} : List (Lit × DataW H) → Nat
  | [] => 0
  | x :: r => uptoBulkEntry x + uptoBulkEntries r
def uptoBulkEntry {H : Type} : Lit × DataW H → Nat
  | (.string bytes, d) => bytes.length + uptoBulk d + 1
  | (_, d) => uptoBulk d + 1
 end
def uptoSmall : (H : Type) → List (DataW H) → Bool := fun _ ds => decide (uptoBulkAll ds ≤ 1048576)
def OpenSpec.upto (s : _root_.Go.ChangeSpec) : _root_.Go.OpenSpec := { _root_.Go.OpenSpec.ofChange s with cond := some uptoSmall }

/-- 'catchmentlaw08.SchemaChecks', WHERE WHAT IT READS IS OF BULK AT MOST 1048576: true; the input reads as it did. -/
def schemaChecksUptoRow : OpenClaim := { program := "ytlccpchlclpnaaa", sum := "e9ef8d5ac9348cc0ec769a8b2002686854be96cf6acbf66e383d15169dcfc037", func := "catchment/catchmentlaw08.SchemaChecks", spec := "schemaChecks", unfollowed := true, recurses := true, apart := false, narrowed := true }
def SchemaChecksUptoSaid : Prop := schemaChecksUptoRow.holds Try.pinned (OpenSpec.upto schemaChecksSpec)

/-- 'catchmentlaw08.SchemaFits', WHERE WHAT IT READS IS OF BULK AT MOST 1048576: true; the input reads as it did. -/
def schemaFitsUptoRow : OpenClaim := { program := "ytlccpchlclpnaaa", sum := "e9ef8d5ac9348cc0ec769a8b2002686854be96cf6acbf66e383d15169dcfc037", func := "catchment/catchmentlaw08.SchemaFits", spec := "schemaFits", unfollowed := true, recurses := true, apart := false, narrowed := true }
def SchemaFitsUptoSaid : Prop := schemaFitsUptoRow.holds Try.pinned (OpenSpec.upto schemaFitsSpec)

/-- 'catchmentlaw08.SchemaLifts', WHERE WHAT IT READS IS OF BULK AT MOST 1048576: true; the input reads as it did. -/
def schemaLiftsUptoRow : OpenClaim := { program := "ytlccpchlclpnaaa", sum := "e9ef8d5ac9348cc0ec769a8b2002686854be96cf6acbf66e383d15169dcfc037", func := "catchment/catchmentlaw08.SchemaLifts", spec := "schemaLifts", unfollowed := true, recurses := true, apart := false, narrowed := true }
def SchemaLiftsUptoSaid : Prop := schemaLiftsUptoRow.holds Try.pinned (OpenSpec.upto schemaLiftsSpec)

/-- 'catchmentlaw08.SchemaGrows', WHERE WHAT IT READS IS OF BULK AT MOST 1048576: true; the input reads as it did. -/
def schemaGrowsUptoRow : OpenClaim := { program := "ytlccpchlclpnaaa", sum := "e9ef8d5ac9348cc0ec769a8b2002686854be96cf6acbf66e383d15169dcfc037", func := "catchment/catchmentlaw08.SchemaGrows", spec := "schemaGrows", unfollowed := true, recurses := true, apart := false, narrowed := true }
def SchemaGrowsUptoSaid : Prop := schemaGrowsUptoRow.holds Try.pinned (OpenSpec.upto schemaGrowsSpec)

/-- 'catchmentlaw08.SchemaUnpacks', WHERE WHAT IT READS IS OF BULK AT MOST 1048576: true; the input reads as it did. -/
def schemaUnpacksUptoRow : OpenClaim := { program := "ytlccpchlclpnaaa", sum := "e9ef8d5ac9348cc0ec769a8b2002686854be96cf6acbf66e383d15169dcfc037", func := "catchment/catchmentlaw08.SchemaUnpacks", spec := "schemaUnpacks", unfollowed := true, recurses := true, apart := false, narrowed := true }
def SchemaUnpacksUptoSaid : Prop := schemaUnpacksUptoRow.holds Try.pinned (OpenSpec.upto schemaUnpacksSpec)

/-- 'catchmentlaw08.SchemaPacks', WHERE WHAT IT READS IS OF BULK AT MOST 1048576: true; the input reads as it did. -/
def schemaPacksUptoRow : OpenClaim := { program := "ytlccpchlclpnaaa", sum := "e9ef8d5ac9348cc0ec769a8b2002686854be96cf6acbf66e383d15169dcfc037", func := "catchment/catchmentlaw08.SchemaPacks", spec := "schemaPacks", unfollowed := true, recurses := true, apart := false, narrowed := true }
def SchemaPacksUptoSaid : Prop := schemaPacksUptoRow.holds Try.pinned (OpenSpec.upto schemaPacksSpec)

/-- 'catchmentlaw14.MetaFinds', WHERE WHAT IT READS IS OF BULK AT MOST 1048576: true; the input reads as it did. -/
def metaFindsUptoRow : OpenClaim := { program := "ytlccpchlclpnaaa", sum := "e9ef8d5ac9348cc0ec769a8b2002686854be96cf6acbf66e383d15169dcfc037", func := "catchment/catchmentlaw14.MetaFinds", spec := "metaFinds", unfollowed := true, recurses := true, apart := false, narrowed := true }
def MetaFindsUptoSaid : Prop := metaFindsUptoRow.holds Try.pinned (OpenSpec.upto metaFindsSpec)

/-- 'catchmentlaw14.MetaSteps', WHERE WHAT IT READS IS OF BULK AT MOST 1048576: true; the input reads as it did. -/
def metaStepsUptoRow : OpenClaim := { program := "ytlccpchlclpnaaa", sum := "e9ef8d5ac9348cc0ec769a8b2002686854be96cf6acbf66e383d15169dcfc037", func := "catchment/catchmentlaw14.MetaSteps", spec := "metaSteps", unfollowed := true, recurses := true, apart := false, narrowed := true }
def MetaStepsUptoSaid : Prop := metaStepsUptoRow.holds Try.pinned (OpenSpec.upto metaStepsSpec)

end Rows
end Go.Proofs.Ytlccpchlclpnaaa
