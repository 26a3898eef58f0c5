/-
  DERIVED. GIVEN WITH THE SEED: THE CARDS: each row of YtbcnekaagkdmeaaDoorRows.lean that lists a variable, with what it lists TIED to the program's text (the seventh form; the later family's looks); each row that meets fmt, with fmt's text TOLD by the authors' own Lean function (tested against real Go, not proved from fmt's source: count such statements apart). THE CARD IS WHAT COUNTS. Prove the row's statement (the work); the ties are given (YtbcnekaagkdmeaaDoorTie.lean); close each card by the builder's one call (the guide's Derived/Test/ToyasCard.lean, 'card_holds'). Laid BY PROGRAM, IN A SANDBOX (cutbox-door.mjs). By AI agents, Wed Nov 11 2026. No macro, syntax, notation, axiom, sorry.
-/
import Derived.Test.YtbcnekaagkdmeaaDoorRows
import GoSem.ClaimSeven
namespace Go.Proofs.YtbcnekaagkdmeaaDoor
namespace Rows

/-- THE TIED CARD OF 'catchmentlaw13.EntryWrites'. -/
def entryWritesCard : Claim7 := { stood := { row := entryWritesRow, standIns := [], harness := (true, "727678ead1f6a67a58f4cab59e7038d0e5fd40fbbe0b120cc8f476e55dc20551"), looks := false }, kinds := [], alts := [], laidByText := true, laidKinds := [.data], laidTests := true, laidLooks := .later }
def EntryWritesCardSaid : Prop := Claim7.holds Tryd.pinned (.plain (OpenSpec.ofChange entryWritesSpec)) entryWritesCard

/-- THE TIED CARD OF 'catchmentlaw13.EntryBack'. -/
def entryBackCard : Claim7 := { stood := { row := entryBackRow, standIns := [], harness := (true, "727678ead1f6a67a58f4cab59e7038d0e5fd40fbbe0b120cc8f476e55dc20551"), looks := false }, kinds := [], alts := [], laidByText := true, laidKinds := [.data], laidTests := true, laidLooks := .later }
def EntryBackCardSaid : Prop := Claim7.holds Tryd.pinned (.plain (OpenSpec.ofChange entryBackSpec)) entryBackCard

/-- THE TIED CARD OF 'catchmentlaw13.EntryOpens'. -/
def entryOpensCard : Claim7 := { stood := { row := entryOpensRow, standIns := [], harness := (true, "727678ead1f6a67a58f4cab59e7038d0e5fd40fbbe0b120cc8f476e55dc20551"), looks := false }, kinds := [], alts := [], laidByText := true, laidKinds := [.data], laidTests := true, laidLooks := .later }
def EntryOpensCardSaid : Prop := Claim7.holds Tryd.pinned (.plain (OpenSpec.ofChange entryOpensSpec)) entryOpensCard

/-- THE TIED CARD OF 'catchmentlaw13.EntrySpoilt'. -/
def entrySpoiltCard : Claim7 := { stood := { row := entrySpoiltRow, standIns := [], harness := (true, "727678ead1f6a67a58f4cab59e7038d0e5fd40fbbe0b120cc8f476e55dc20551"), looks := false }, kinds := [], alts := [], laidByText := true, laidKinds := [.data], laidTests := true, laidLooks := .later }
def EntrySpoiltCardSaid : Prop := Claim7.holds Tryd.pinned (.plain (OpenSpec.ofChange entrySpoiltSpec)) entrySpoiltCard

/-- THE TIED CARD OF 'catchmentlaw13.EntryMerges'. -/
def entryMergesCard : Claim7 := { stood := { row := entryMergesRow, standIns := [], harness := (true, "727678ead1f6a67a58f4cab59e7038d0e5fd40fbbe0b120cc8f476e55dc20551"), looks := false }, kinds := [], alts := [], laidByText := true, laidKinds := [.data], laidTests := true, laidLooks := .later }
def EntryMergesCardSaid : Prop := Claim7.holds Tryd.pinned (.plain (OpenSpec.ofChange entryMergesSpec)) entryMergesCard

/-- THE SECOND FORM's CARD OF 'catchmentlaw13.EntryWrites'. -/
def entryWritesUptoCard : Claim7 := { stood := { row := entryWritesUptoRow, standIns := [], harness := (true, "727678ead1f6a67a58f4cab59e7038d0e5fd40fbbe0b120cc8f476e55dc20551"), looks := false }, kinds := [], alts := [], laidByText := true, laidKinds := [.data], laidTests := true, laidLooks := .later }
def EntryWritesUptoCardSaid : Prop := Claim7.holds Tryd.pinned (.plain (OpenSpec.upto entryWritesSpec)) entryWritesUptoCard

/-- THE SECOND FORM's CARD OF 'catchmentlaw13.EntryBack'. -/
def entryBackUptoCard : Claim7 := { stood := { row := entryBackUptoRow, standIns := [], harness := (true, "727678ead1f6a67a58f4cab59e7038d0e5fd40fbbe0b120cc8f476e55dc20551"), looks := false }, kinds := [], alts := [], laidByText := true, laidKinds := [.data], laidTests := true, laidLooks := .later }
def EntryBackUptoCardSaid : Prop := Claim7.holds Tryd.pinned (.plain (OpenSpec.upto entryBackSpec)) entryBackUptoCard

/-- THE SECOND FORM's CARD OF 'catchmentlaw13.EntryOpens'. -/
def entryOpensUptoCard : Claim7 := { stood := { row := entryOpensUptoRow, standIns := [], harness := (true, "727678ead1f6a67a58f4cab59e7038d0e5fd40fbbe0b120cc8f476e55dc20551"), looks := false }, kinds := [], alts := [], laidByText := true, laidKinds := [.data], laidTests := true, laidLooks := .later }
def EntryOpensUptoCardSaid : Prop := Claim7.holds Tryd.pinned (.plain (OpenSpec.upto entryOpensSpec)) entryOpensUptoCard

/-- THE SECOND FORM's CARD OF 'catchmentlaw13.EntrySpoilt'. -/
def entrySpoiltUptoCard : Claim7 := { stood := { row := entrySpoiltUptoRow, standIns := [], harness := (true, "727678ead1f6a67a58f4cab59e7038d0e5fd40fbbe0b120cc8f476e55dc20551"), looks := false }, kinds := [], alts := [], laidByText := true, laidKinds := [.data], laidTests := true, laidLooks := .later }
def EntrySpoiltUptoCardSaid : Prop := Claim7.holds Tryd.pinned (.plain (OpenSpec.upto entrySpoiltSpec)) entrySpoiltUptoCard

/-- THE SECOND FORM's CARD OF 'catchmentlaw13.EntryMerges'. -/
def entryMergesUptoCard : Claim7 := { stood := { row := entryMergesUptoRow, standIns := [], harness := (true, "727678ead1f6a67a58f4cab59e7038d0e5fd40fbbe0b120cc8f476e55dc20551"), looks := false }, kinds := [], alts := [], laidByText := true, laidKinds := [.data], laidTests := true, laidLooks := .later }
def EntryMergesUptoCardSaid : Prop := Claim7.holds Tryd.pinned (.plain (OpenSpec.upto entryMergesSpec)) entryMergesUptoCard
end Rows
end Go.Proofs.YtbcnekaagkdmeaaDoor
