import Derived.Test.YtmeoolijekillaaGreatDoorRows
import Derived.KernelRfl
import Derived.JoinedCond
import Derived.SevenTiedAt
namespace Go.Proofs.YtmeoolijekillaaGreatDoor.judgesCross
open Go
theorem j3:(Rows.judgesCrossRow.recurses == Tryz.pinned.checked.prog.recurses 5)=true:=by kernel_rfl
end Go.Proofs.YtmeoolijekillaaGreatDoor.judgesCross
