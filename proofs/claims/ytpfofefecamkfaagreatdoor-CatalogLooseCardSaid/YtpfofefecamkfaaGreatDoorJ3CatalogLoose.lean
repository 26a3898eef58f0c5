/- CLOSED FACTS of CatalogLoose's row, part 3. No statement of the seat is proved here; no condition. -/
import Derived.Test.YtpfofefecamkfaaGreatDoorRows
import Derived.JoinedCond
import Derived.JoinedOf
import Derived.KernelRfl
import Derived.Test.YtpfofefecamkfaaGreatDoorJ1CatalogLoose
import Derived.Test.YtpfofefecamkfaaGreatDoorJ2CatalogLoose
namespace Go.Proofs.YtpfofefecamkfaaGreatDoor.catalogLoose
open Go Go.Proofs.YtpfofefecamkfaaGreatDoor

theorem closed:joinedFacts Tryz.pinned.checked.prog 4 Tryz.f4 (OpenSpec.ofChange Rows.catalogLooseSpec).bare Rows.catalogLooseRow = true:=by
 unfold joinedFacts
 rw [j1,j2,j3,j4]
 kernel_rfl
end Go.Proofs.YtpfofefecamkfaaGreatDoor.catalogLoose
