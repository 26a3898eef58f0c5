/- WORDS OF THE SEAT: the type of slices of bytes; what a call gives. No statement of the seat is proved here; no condition. -/
import Derived.Test.YtjjileokdikcmaaDoorProg
import Derived.Test.YtjjileokdikcmaaDoorBase
namespace Go.Proofs.YtjjileokdikcmaaDoor
open Go.RowKit

theorem tyBytes : STy Tryd.prog 23 5 1 1 (.int .u8 0) := ⟨Tryd.underlying23, by kernel_rfl, rfl, by decide, by decide⟩

/-- the call gives the bytes l in a row of its own; what was there is as it was -/
def RetBytes (w : World) (l : List UInt8) (e : Ending) (w' : World) : Prop :=
  ∃ v, e = .returned v ∧ w'.ownsRow w.heap.size 5 1 v l.length (bytesV l) ∧ Below w.heap.size w w'


/-- the call gives v; what was there is as it was -/
def RetVal (w : World) (v : Value) (e : Ending) (w' : World) : Prop := e = .returned v ∧ Below w.heap.size w w'

end Go.Proofs.YtjjileokdikcmaaDoor
