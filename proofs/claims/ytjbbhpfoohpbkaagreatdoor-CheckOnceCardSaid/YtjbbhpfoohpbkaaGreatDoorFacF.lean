/- The map rows of the program. No condition. -/
import Derived.Test.YtjbbhpfoohpbkaaGreatDoorFacT
import Derived.Test.YtjbbhpfoohpbkaaGreatDoorRows
import Derived.Test.YtjbbhpfoohpbkaaGreatDoorCards
set_option linter.all false
open Go Go.Xv
namespace Go.Proofs.YtjbbhpfoohpbkaaGreatDoor
theorem maps_rowed : mapsRowed Tryz.prog = true := maps_fast t_info types_size (by kernel_rfl)
end Go.Proofs.YtjbbhpfoohpbkaaGreatDoor
