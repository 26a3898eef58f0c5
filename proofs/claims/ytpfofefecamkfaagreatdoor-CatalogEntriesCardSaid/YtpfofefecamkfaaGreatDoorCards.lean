/-
  DERIVED. GIVEN WITH THE SEED: THE CARDS: each row of YtpfofefecamkfaaGreatDoorRows.lean that lists a variable, with what it lists TIED to the program's text (the seventh form; the later family's looks); each row that meets fmt, with fmt's text TOLD by the authors' own Lean function (tested against real Go, not proved from fmt's source: count such statements apart). THE CARD IS WHAT COUNTS. Prove the row's statement (the work); the ties are given (YtpfofefecamkfaaGreatDoorTie.lean); close each card by the builder's one call (the guide's Derived/Test/ToyasCard.lean, 'card_holds'). Laid BY PROGRAM, IN A SANDBOX (cutbox-door.mjs). By AI agents, Wed Nov 11 2026. No macro, syntax, notation, axiom, sorry.
-/
import Derived.Test.YtpfofefecamkfaaGreatDoorRows
import GoSem.ClaimSeven
namespace Go.Proofs.YtpfofefecamkfaaGreatDoor
namespace Rows

/-- THE TIED CARD OF 'catchmentlaw15.CatalogOthers'. -/
def catalogOthersCard : Claim7 := { stood := { row := catalogOthersRow, standIns := [], harness := (true, "843e8376de8b227207c6d1fe45678bbea202beddea7f225c1d5f6da5ac7879b2"), looks := true }, kinds := [], alts := [], laidByText := true, laidKinds := [.data, .data, .data, .data, .data, .sentinel, .sentinel, .pinned], laidTests := true, laidLooks := .later }
def CatalogOthersCardSaid : Prop := Claim7.holds Tryz.pinned (.plain (OpenSpec.ofChange catalogOthersSpec)) catalogOthersCard

/-- THE TIED CARD OF 'catchmentlaw15.CatalogLoose'. -/
def catalogLooseCard : Claim7 := { stood := { row := catalogLooseRow, standIns := [], harness := (true, "843e8376de8b227207c6d1fe45678bbea202beddea7f225c1d5f6da5ac7879b2"), looks := true }, kinds := [], alts := [], laidByText := true, laidKinds := [.data, .data, .data, .data, .data, .sentinel, .sentinel, .pinned], laidTests := true, laidLooks := .later }
def CatalogLooseCardSaid : Prop := Claim7.holds Tryz.pinned (.plain (OpenSpec.ofChange catalogLooseSpec)) catalogLooseCard

/-- THE TIED CARD OF 'catchmentlaw15.CatalogWhole'. -/
def catalogWholeCard : Claim7 := { stood := { row := catalogWholeRow, standIns := [], harness := (true, "843e8376de8b227207c6d1fe45678bbea202beddea7f225c1d5f6da5ac7879b2"), looks := true }, kinds := [], alts := [], laidByText := true, laidKinds := [.data, .data, .data, .data, .data, .sentinel, .sentinel, .pinned], laidTests := true, laidLooks := .later }
def CatalogWholeCardSaid : Prop := Claim7.holds Tryz.pinned (.plain (OpenSpec.ofChange catalogWholeSpec)) catalogWholeCard

/-- THE TIED CARD OF 'catchmentlaw15.CatalogOwn'. -/
def catalogOwnCard : Claim7 := { stood := { row := catalogOwnRow, standIns := [], harness := (true, "843e8376de8b227207c6d1fe45678bbea202beddea7f225c1d5f6da5ac7879b2"), looks := true }, kinds := [], alts := [], laidByText := true, laidKinds := [.data, .data, .data, .data, .data, .sentinel, .sentinel, .pinned], laidTests := true, laidLooks := .later }
def CatalogOwnCardSaid : Prop := Claim7.holds Tryz.pinned (.plain (OpenSpec.ofChange catalogOwnSpec)) catalogOwnCard

/-- THE TIED CARD OF 'catchmentlaw15.CatalogEntries'. -/
def catalogEntriesCard : Claim7 := { stood := { row := catalogEntriesRow, standIns := [], harness := (true, "843e8376de8b227207c6d1fe45678bbea202beddea7f225c1d5f6da5ac7879b2"), looks := true }, kinds := [], alts := [], laidByText := true, laidKinds := [.data, .data, .data, .data, .data, .sentinel, .sentinel, .pinned], laidTests := true, laidLooks := .later }
def CatalogEntriesCardSaid : Prop := Claim7.holds Tryz.pinned (.plain (OpenSpec.ofChange catalogEntriesSpec)) catalogEntriesCard

/-- THE SECOND FORM's CARD OF 'catchmentlaw15.CatalogOthers'. -/
def catalogOthersUptoCard : Claim7 := { stood := { row := catalogOthersUptoRow, standIns := [], harness := (true, "843e8376de8b227207c6d1fe45678bbea202beddea7f225c1d5f6da5ac7879b2"), looks := true }, kinds := [], alts := [], laidByText := true, laidKinds := [.data, .data, .data, .data, .data, .sentinel, .sentinel, .pinned], laidTests := true, laidLooks := .later }
def CatalogOthersUptoCardSaid : Prop := Claim7.holds Tryz.pinned (.plain (OpenSpec.upto catalogOthersSpec)) catalogOthersUptoCard

/-- THE SECOND FORM's CARD OF 'catchmentlaw15.CatalogLoose'. -/
def catalogLooseUptoCard : Claim7 := { stood := { row := catalogLooseUptoRow, standIns := [], harness := (true, "843e8376de8b227207c6d1fe45678bbea202beddea7f225c1d5f6da5ac7879b2"), looks := true }, kinds := [], alts := [], laidByText := true, laidKinds := [.data, .data, .data, .data, .data, .sentinel, .sentinel, .pinned], laidTests := true, laidLooks := .later }
def CatalogLooseUptoCardSaid : Prop := Claim7.holds Tryz.pinned (.plain (OpenSpec.upto catalogLooseSpec)) catalogLooseUptoCard

/-- THE SECOND FORM's CARD OF 'catchmentlaw15.CatalogWhole'. -/
def catalogWholeUptoCard : Claim7 := { stood := { row := catalogWholeUptoRow, standIns := [], harness := (true, "843e8376de8b227207c6d1fe45678bbea202beddea7f225c1d5f6da5ac7879b2"), looks := true }, kinds := [], alts := [], laidByText := true, laidKinds := [.data, .data, .data, .data, .data, .sentinel, .sentinel, .pinned], laidTests := true, laidLooks := .later }
def CatalogWholeUptoCardSaid : Prop := Claim7.holds Tryz.pinned (.plain (OpenSpec.upto catalogWholeSpec)) catalogWholeUptoCard

/-- THE SECOND FORM's CARD OF 'catchmentlaw15.CatalogOwn'. -/
def catalogOwnUptoCard : Claim7 := { stood := { row := catalogOwnUptoRow, standIns := [], harness := (true, "843e8376de8b227207c6d1fe45678bbea202beddea7f225c1d5f6da5ac7879b2"), looks := true }, kinds := [], alts := [], laidByText := true, laidKinds := [.data, .data, .data, .data, .data, .sentinel, .sentinel, .pinned], laidTests := true, laidLooks := .later }
def CatalogOwnUptoCardSaid : Prop := Claim7.holds Tryz.pinned (.plain (OpenSpec.upto catalogOwnSpec)) catalogOwnUptoCard

/-- THE SECOND FORM's CARD OF 'catchmentlaw15.CatalogEntries'. -/
def catalogEntriesUptoCard : Claim7 := { stood := { row := catalogEntriesUptoRow, standIns := [], harness := (true, "843e8376de8b227207c6d1fe45678bbea202beddea7f225c1d5f6da5ac7879b2"), looks := true }, kinds := [], alts := [], laidByText := true, laidKinds := [.data, .data, .data, .data, .data, .sentinel, .sentinel, .pinned], laidTests := true, laidLooks := .later }
def CatalogEntriesUptoCardSaid : Prop := Claim7.holds Tryz.pinned (.plain (OpenSpec.upto catalogEntriesSpec)) catalogEntriesUptoCard
end Rows
end Go.Proofs.YtpfofefecamkfaaGreatDoor
