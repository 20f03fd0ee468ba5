import Derived.Test.YtmeoolijekillaaGreatDoorRows
import Derived.KernelRfl
import Derived.JoinedCond
import Derived.SevenTiedAt
namespace Go.Proofs.YtmeoolijekillaaGreatDoor.judgesCross
open Go
theorem j2:(Rows.judgesCrossRow.unfollowed == Tryz.pinned.checked.prog.unfollowed 5)=true:=by kernel_rfl
end Go.Proofs.YtmeoolijekillaaGreatDoor.judgesCross
