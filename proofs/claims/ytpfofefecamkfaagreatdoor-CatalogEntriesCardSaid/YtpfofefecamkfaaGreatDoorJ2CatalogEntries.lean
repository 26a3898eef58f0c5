/- What serves the card. -/
import Derived.Test.YtpfofefecamkfaaGreatDoorRows
import Derived.JoinedCond
import Derived.JoinedOf
import Derived.KernelRfl
namespace Go.Proofs.YtpfofefecamkfaaGreatDoor.catalogEntries
open Go Go.Proofs.YtpfofefecamkfaaGreatDoor
theorem j3:(Rows.catalogEntriesRow.recurses==Tryz.pinned.checked.prog.recurses 7)=true:=by kernel_rfl
theorem j4:(Rows.catalogEntriesRow.named==Tryz.pinned.checked.prog.varsNamed 7)=true:=by kernel_rfl
end Go.Proofs.YtpfofefecamkfaaGreatDoor.catalogEntries
