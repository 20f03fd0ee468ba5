import Derived.Test.YtmeoolijekillaaGreatDoorRows
import Derived.KernelRfl
import Derived.JoinedCond
import Derived.SevenTiedAt
namespace Go.Proofs.YtmeoolijekillaaGreatDoor.judgesCross
open Go
theorem goes:false=Rows.judgesCrossRow.goesBy Tryz.pinned.checked.prog:=by kernel_rfl
end Go.Proofs.YtmeoolijekillaaGreatDoor.judgesCross
