/- CLOSED FACTS of CatalogOthers's row, part 1. No statement of the seat is proved here; no condition. -/
import Derived.Test.YtpfofefecamkfaaGreatDoorRows
import Derived.JoinedCond
import Derived.JoinedOf
import Derived.KernelRfl
namespace Go.Proofs.YtpfofefecamkfaaGreatDoor.catalogOthers
open Go Go.Proofs.YtpfofefecamkfaaGreatDoor

theorem j1:(Rows.catalogOthersRow.inPlace == Tryz.pinned.checked.prog.inPlace 3) = true:=by kernel_rfl
theorem j2:(Rows.catalogOthersRow.unfollowed == Tryz.pinned.checked.prog.unfollowed 3) = true:=by kernel_rfl
end Go.Proofs.YtpfofefecamkfaaGreatDoor.catalogOthers
