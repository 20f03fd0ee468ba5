import Derived.Test.YtmeoolijekillaaGreatDoorRows
import Derived.KernelRfl
import Derived.JoinedCond
import Derived.SevenTiedAt
namespace Go.Proofs.YtmeoolijekillaaGreatDoor.judgesSerial
open Go
theorem j4:(Rows.judgesSerialRow.named == Tryz.pinned.checked.prog.varsNamed 3)=true:=by kernel_rfl
end Go.Proofs.YtmeoolijekillaaGreatDoor.judgesSerial
