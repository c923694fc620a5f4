/- A byte as a value. -/
import Derived.Test.YtdfdikpklddnhaaGreatDoorEr03
import Derived.Test.YtdfdikpklddnhaaGreatDoorProg
import Derived.Test.YtdfdikpklddnhaaGreatDoorEr01
namespace Go.Proofs.YtdfdikpklddnhaaGreatDoor
open Go.RowKit

def byteV (b : UInt8) : Value := .int .u8 b.toNat
theorem Tryz.info5 : (Tryz.prog.info? 5).map (fun i => (i.zero, i.size, i.bytes)) = some (some (.int .u8 0), 1, 1) := by kernel_rfl
end Go.Proofs.YtdfdikpklddnhaaGreatDoor
