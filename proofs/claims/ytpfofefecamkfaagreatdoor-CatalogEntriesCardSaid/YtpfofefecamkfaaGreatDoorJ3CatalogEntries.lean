/- What serves the card. -/
import Derived.Test.YtpfofefecamkfaaGreatDoorJ1CatalogEntries
import Derived.Test.YtpfofefecamkfaaGreatDoorJ2CatalogEntries
namespace Go.Proofs.YtpfofefecamkfaaGreatDoor.catalogEntries
open Go Go.Proofs.YtpfofefecamkfaaGreatDoor
theorem YJ:joinedFacts Tryz.pinned.checked.prog 7 Tryz.f7 (OpenSpec.ofChange Rows.catalogEntriesSpec).bare Rows.catalogEntriesRow=true:=by
 unfold joinedFacts;rw[j1,j2,j3,j4]
 kernel_rfl
end Go.Proofs.YtpfofefecamkfaaGreatDoor.catalogEntries
