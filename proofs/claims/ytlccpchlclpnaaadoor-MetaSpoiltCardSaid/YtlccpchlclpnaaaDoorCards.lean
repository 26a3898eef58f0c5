/-
  DERIVED. GIVEN WITH THE SEED: THE CARDS: each row of YtlccpchlclpnaaaDoorRows.lean that lists a variable, with what it lists TIED to the program's text (the seventh form; the later family's looks); each row that meets fmt, with fmt's text TOLD by the authors' own Lean function (tested against real Go, not proved from fmt's source: count such statements apart). THE CARD IS WHAT COUNTS. Prove the row's statement (the work); the ties are given (YtlccpchlclpnaaaDoorTie.lean); close each card by the builder's one call (the guide's Derived/Test/ToyasCard.lean, 'card_holds'). Laid BY PROGRAM, IN A SANDBOX (cutbox-door.mjs). By AI agents, Wed Nov 11 2026. No macro, syntax, notation, axiom, sorry.
-/
import Derived.Test.YtlccpchlclpnaaaDoorRows
import GoSem.ClaimSeven
namespace Go.Proofs.YtlccpchlclpnaaaDoor
namespace Rows

/-- THE TIED CARD OF 'catchmentlaw14.MetaOwn'. -/
def metaOwnCard : Claim7 := { stood := { row := metaOwnRow, standIns := [], harness := (true, "b80de134b845d6f8f9df5e6f303b93d261347695e1226ebf414fc713fbd48b97"), looks := false }, kinds := [], alts := [], laidByText := true, laidKinds := [.data], laidTests := true, laidLooks := .later }
def MetaOwnCardSaid : Prop := Claim7.holds Tryd.pinned (.plain (OpenSpec.ofChange metaOwnSpec)) metaOwnCard

/-- THE TIED CARD OF 'catchmentlaw14.MetaWrites'. -/
def metaWritesCard : Claim7 := { stood := { row := metaWritesRow, standIns := [], harness := (true, "b80de134b845d6f8f9df5e6f303b93d261347695e1226ebf414fc713fbd48b97"), looks := false }, kinds := [], alts := [], laidByText := true, laidKinds := [.data], laidTests := true, laidLooks := .later }
def MetaWritesCardSaid : Prop := Claim7.holds Tryd.pinned (.plain (OpenSpec.ofChange metaWritesSpec)) metaWritesCard

/-- THE TIED CARD OF 'catchmentlaw14.MetaOpens'. -/
def metaOpensCard : Claim7 := { stood := { row := metaOpensRow, standIns := [], harness := (true, "b80de134b845d6f8f9df5e6f303b93d261347695e1226ebf414fc713fbd48b97"), looks := false }, kinds := [], alts := [], laidByText := true, laidKinds := [.data], laidTests := true, laidLooks := .later }
def MetaOpensCardSaid : Prop := Claim7.holds Tryd.pinned (.plain (OpenSpec.ofChange metaOpensSpec)) metaOpensCard

/-- THE TIED CARD OF 'catchmentlaw14.MetaSpoilt'. -/
def metaSpoiltCard : Claim7 := { stood := { row := metaSpoiltRow, standIns := [], harness := (true, "b80de134b845d6f8f9df5e6f303b93d261347695e1226ebf414fc713fbd48b97"), looks := false }, kinds := [], alts := [], laidByText := true, laidKinds := [.data], laidTests := true, laidLooks := .later }
def MetaSpoiltCardSaid : Prop := Claim7.holds Tryd.pinned (.plain (OpenSpec.ofChange metaSpoiltSpec)) metaSpoiltCard

/-- THE SECOND FORM's CARD OF 'catchmentlaw14.MetaOwn'. -/
def metaOwnUptoCard : Claim7 := { stood := { row := metaOwnUptoRow, standIns := [], harness := (true, "b80de134b845d6f8f9df5e6f303b93d261347695e1226ebf414fc713fbd48b97"), looks := false }, kinds := [], alts := [], laidByText := true, laidKinds := [.data], laidTests := true, laidLooks := .later }
def MetaOwnUptoCardSaid : Prop := Claim7.holds Tryd.pinned (.plain (OpenSpec.upto metaOwnSpec)) metaOwnUptoCard

/-- THE SECOND FORM's CARD OF 'catchmentlaw14.MetaWrites'. -/
def metaWritesUptoCard : Claim7 := { stood := { row := metaWritesUptoRow, standIns := [], harness := (true, "b80de134b845d6f8f9df5e6f303b93d261347695e1226ebf414fc713fbd48b97"), looks := false }, kinds := [], alts := [], laidByText := true, laidKinds := [.data], laidTests := true, laidLooks := .later }
def MetaWritesUptoCardSaid : Prop := Claim7.holds Tryd.pinned (.plain (OpenSpec.upto metaWritesSpec)) metaWritesUptoCard

/-- THE SECOND FORM's CARD OF 'catchmentlaw14.MetaOpens'. -/
def metaOpensUptoCard : Claim7 := { stood := { row := metaOpensUptoRow, standIns := [], harness := (true, "b80de134b845d6f8f9df5e6f303b93d261347695e1226ebf414fc713fbd48b97"), looks := false }, kinds := [], alts := [], laidByText := true, laidKinds := [.data], laidTests := true, laidLooks := .later }
def MetaOpensUptoCardSaid : Prop := Claim7.holds Tryd.pinned (.plain (OpenSpec.upto metaOpensSpec)) metaOpensUptoCard

/-- THE SECOND FORM's CARD OF 'catchmentlaw14.MetaSpoilt'. -/
def metaSpoiltUptoCard : Claim7 := { stood := { row := metaSpoiltUptoRow, standIns := [], harness := (true, "b80de134b845d6f8f9df5e6f303b93d261347695e1226ebf414fc713fbd48b97"), looks := false }, kinds := [], alts := [], laidByText := true, laidKinds := [.data], laidTests := true, laidLooks := .later }
def MetaSpoiltUptoCardSaid : Prop := Claim7.holds Tryd.pinned (.plain (OpenSpec.upto metaSpoiltSpec)) metaSpoiltUptoCard
end Rows
end Go.Proofs.YtlccpchlclpnaaaDoor
