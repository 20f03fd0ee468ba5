import Derived.Test.YtmeoolijekillaaGreatDoorRows
import Derived.KernelRfl
import Derived.JoinedCond
import Derived.SevenTiedAt
namespace Go.Proofs.YtmeoolijekillaaGreatDoor.judgesLocal
open Go
theorem goes:false=Rows.judgesLocalRow.goesBy Tryz.pinned.checked.prog:=by kernel_rfl
end Go.Proofs.YtmeoolijekillaaGreatDoor.judgesLocal
