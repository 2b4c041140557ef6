/- The program does not look. No condition. -/
import Derived.Test.YtjbbhpfoohpbkaaGreatDoorFacT
import Derived.Test.YtjbbhpfoohpbkaaGreatDoorRows
import Derived.Test.YtjbbhpfoohpbkaaGreatDoorCards
set_option linter.all false
open Go Go.Xv
namespace Go.Proofs.YtjbbhpfoohpbkaaGreatDoor
theorem no_looks : Tryz.prog.looks [] = false := looks_fast f_get funcs_size (by kernel_rfl)
end Go.Proofs.YtjbbhpfoohpbkaaGreatDoor
