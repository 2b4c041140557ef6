/- The program is laid out and starts no goroutine. No condition. -/
import Derived.Test.YtjbbhpfoohpbkaaGreatDoorFacT
import Derived.Test.YtjbbhpfoohpbkaaGreatDoorRows
import Derived.Test.YtjbbhpfoohpbkaaGreatDoorCards
set_option linter.all false
open Go Go.Xv
namespace Go.Proofs.YtjbbhpfoohpbkaaGreatDoor
theorem laid_out : laidOutB Tryz.prog = true := laid_fast t_info types_size (by kernel_rfl) (by kernel_rfl) (by rw [f_list]; kernel_rfl)
theorem no_go : Tryz.prog.funcs.toList.all (fun fn => !fn.goes) = true := by rw [f_list]; kernel_rfl
theorem own : ownKnob Tryz.prog.godebug = none := by kernel_rfl
end Go.Proofs.YtjbbhpfoohpbkaaGreatDoor
