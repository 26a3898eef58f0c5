/- What serves the card. -/
import Derived.Test.YtpfofefecamkfaaGreatDoorRows
import Derived.JoinedCond
import Derived.JoinedOf
import Derived.KernelRfl
namespace Go.Proofs.YtpfofefecamkfaaGreatDoor.catalogEntries
open Go Go.Proofs.YtpfofefecamkfaaGreatDoor
theorem j1:(Rows.catalogEntriesRow.inPlace==Tryz.pinned.checked.prog.inPlace 7)=true:=by kernel_rfl
theorem j2:(Rows.catalogEntriesRow.unfollowed==Tryz.pinned.checked.prog.unfollowed 7)=true:=by kernel_rfl
end Go.Proofs.YtpfofefecamkfaaGreatDoor.catalogEntries
