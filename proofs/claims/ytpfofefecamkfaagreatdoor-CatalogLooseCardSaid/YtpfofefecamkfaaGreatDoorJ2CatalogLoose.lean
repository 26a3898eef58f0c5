/- CLOSED FACTS of CatalogLoose's row, part 2. No statement of the seat is proved here; no condition. -/
import Derived.Test.YtpfofefecamkfaaGreatDoorRows
import Derived.JoinedCond
import Derived.JoinedOf
import Derived.KernelRfl
namespace Go.Proofs.YtpfofefecamkfaaGreatDoor.catalogLoose
open Go Go.Proofs.YtpfofefecamkfaaGreatDoor

theorem j3:(Rows.catalogLooseRow.recurses == Tryz.pinned.checked.prog.recurses 4) = true:=by kernel_rfl
theorem j4:(Rows.catalogLooseRow.named == Tryz.pinned.checked.prog.varsNamed 4) = true:=by kernel_rfl
end Go.Proofs.YtpfofefecamkfaaGreatDoor.catalogLoose
