/- CLOSED FACTS of CatalogOthers's row, part 3. No statement of the seat is proved here; no condition. -/
import Derived.Test.YtpfofefecamkfaaGreatDoorRows
import Derived.JoinedCond
import Derived.JoinedOf
import Derived.KernelRfl
import Derived.Test.YtpfofefecamkfaaGreatDoorJ1CatalogOthers
import Derived.Test.YtpfofefecamkfaaGreatDoorJ2CatalogOthers
namespace Go.Proofs.YtpfofefecamkfaaGreatDoor.catalogOthers
open Go Go.Proofs.YtpfofefecamkfaaGreatDoor

theorem closed:joinedFacts Tryz.pinned.checked.prog 3 Tryz.f3 (OpenSpec.ofChange Rows.catalogOthersSpec).bare Rows.catalogOthersRow = true:=by
 unfold joinedFacts
 rw [j1,j2,j3,j4]
 kernel_rfl
end Go.Proofs.YtpfofefecamkfaaGreatDoor.catalogOthers
