/- WORDS OF THE SEAT: the type of slices of bytes; what a call gives. No statement of the seat is proved here; no condition. -/
import Derived.Test.YtlccpchlclpnaaaProg
import Derived.Test.YtlccpchlclpnaaaBase
namespace Go.Proofs.Ytlccpchlclpnaaa
open Go.RowKit

theorem tyBytes : STy Try.prog 54 5 1 1 (.int .u8 0) := ⟨Try.underlying54, by kernel_rfl, rfl, by decide, by decide⟩

/-- the call gives the bytes l in a row of its own; what was there is as it was -/
def RetBytes (w : World) (l : List UInt8) (e : Ending) (w' : World) : Prop :=
  ∃ v, e = .returned v ∧ w'.ownsRow w.heap.size 5 1 v l.length (bytesV l) ∧ Below w.heap.size w w'


/-- the call gives v; what was there is as it was -/
def RetVal (w : World) (v : Value) (e : Ending) (w' : World) : Prop := e = .returned v ∧ Below w.heap.size w w'

end Go.Proofs.Ytlccpchlclpnaaa
