/- The program may be entered. No condition. -/
import Derived.Test.YtjbbhpfoohpbkaaGreatDoorFacT
import Derived.Test.YtjbbhpfoohpbkaaGreatDoorRows
import Derived.Test.YtjbbhpfoohpbkaaGreatDoorCards
set_option linter.all false
open Go Go.Xv
namespace Go.Proofs.YtjbbhpfoohpbkaaGreatDoor
theorem no_later : Tryz.prog.laysLater = false := lays_fast (by rw [f_list]; kernel_rfl)
theorem may_enter : Tryz.prog.mayEnter = true := by
  unfold Program.mayEnter
  rw [no_later]
  kernel_rfl
end Go.Proofs.YtjbbhpfoohpbkaaGreatDoor
