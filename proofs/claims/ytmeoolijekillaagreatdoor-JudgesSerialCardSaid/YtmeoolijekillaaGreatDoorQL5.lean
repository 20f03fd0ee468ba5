import Derived.Test.YtmeoolijekillaaGreatDoorRows
import Derived.KernelRfl
import Derived.JoinedCond
import Derived.SevenTiedAt
namespace Go.Proofs.YtmeoolijekillaaGreatDoor.judgesSerial
open Go
theorem goes:false=Rows.judgesSerialRow.goesBy Tryz.pinned.checked.prog:=by kernel_rfl
end Go.Proofs.YtmeoolijekillaaGreatDoor.judgesSerial
