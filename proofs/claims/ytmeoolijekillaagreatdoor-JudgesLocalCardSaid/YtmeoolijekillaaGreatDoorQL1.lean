import Derived.Test.YtmeoolijekillaaGreatDoorRows
import Derived.KernelRfl
import Derived.JoinedCond
import Derived.SevenTiedAt
namespace Go.Proofs.YtmeoolijekillaaGreatDoor.judgesLocal
open Go
theorem j1:(Rows.judgesLocalRow.inPlace == Tryz.pinned.checked.prog.inPlace 4)=true:=by kernel_rfl
end Go.Proofs.YtmeoolijekillaaGreatDoor.judgesLocal
