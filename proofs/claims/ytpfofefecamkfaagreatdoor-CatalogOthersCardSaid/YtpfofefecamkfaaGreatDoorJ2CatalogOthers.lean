/- CLOSED FACTS of CatalogOthers's row, part 2. No statement of the seat is proved here; no condition. -/
import Derived.Test.YtpfofefecamkfaaGreatDoorRows
import Derived.JoinedCond
import Derived.JoinedOf
import Derived.KernelRfl
namespace Go.Proofs.YtpfofefecamkfaaGreatDoor.catalogOthers
open Go Go.Proofs.YtpfofefecamkfaaGreatDoor

theorem j3:(Rows.catalogOthersRow.recurses == Tryz.pinned.checked.prog.recurses 3) = true:=by kernel_rfl
theorem j4:(Rows.catalogOthersRow.named == Tryz.pinned.checked.prog.varsNamed 3) = true:=by kernel_rfl
end Go.Proofs.YtpfofefecamkfaaGreatDoor.catalogOthers
