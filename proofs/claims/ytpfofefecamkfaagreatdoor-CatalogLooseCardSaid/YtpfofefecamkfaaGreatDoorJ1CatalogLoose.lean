/- CLOSED FACTS of CatalogLoose's row, part 1. No statement of the seat is proved here; no condition. -/
import Derived.Test.YtpfofefecamkfaaGreatDoorRows
import Derived.JoinedCond
import Derived.JoinedOf
import Derived.KernelRfl
namespace Go.Proofs.YtpfofefecamkfaaGreatDoor.catalogLoose
open Go Go.Proofs.YtpfofefecamkfaaGreatDoor

theorem j1:(Rows.catalogLooseRow.inPlace == Tryz.pinned.checked.prog.inPlace 4) = true:=by kernel_rfl
theorem j2:(Rows.catalogLooseRow.unfollowed == Tryz.pinned.checked.prog.unfollowed 4) = true:=by kernel_rfl
end Go.Proofs.YtpfofefecamkfaaGreatDoor.catalogLoose
