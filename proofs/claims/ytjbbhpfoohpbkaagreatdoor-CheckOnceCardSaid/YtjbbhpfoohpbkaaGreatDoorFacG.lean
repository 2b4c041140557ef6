/- Stops and keys of the program. No condition. -/
import Derived.Test.YtjbbhpfoohpbkaaGreatDoorFacT
import Derived.Test.YtjbbhpfoohpbkaaGreatDoorRows
import Derived.Test.YtjbbhpfoohpbkaaGreatDoorCards
set_option linter.all false
open Go Go.Xv
namespace Go.Proofs.YtjbbhpfoohpbkaaGreatDoor
theorem heard : Tryz.prog.stopsHeard = true := by
  unfold Program.stopsHeard
  rw [← Array.all_toList, f_list]
  kernel_rfl
theorem plain_keys : Tryz.prog.plainKeys = false := by kernel_rfl
end Go.Proofs.YtjbbhpfoohpbkaaGreatDoor
