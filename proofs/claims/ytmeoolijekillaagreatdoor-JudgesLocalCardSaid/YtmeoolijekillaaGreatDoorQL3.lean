import Derived.Test.YtmeoolijekillaaGreatDoorRows
import Derived.KernelRfl
import Derived.JoinedCond
import Derived.SevenTiedAt
namespace Go.Proofs.YtmeoolijekillaaGreatDoor.judgesLocal
open Go
theorem j3:(Rows.judgesLocalRow.recurses == Tryz.pinned.checked.prog.recurses 4)=true:=by kernel_rfl
end Go.Proofs.YtmeoolijekillaaGreatDoor.judgesLocal
