/- The numbers of the two laws. No condition. -/
import Derived.Test.YtjbbhpfoohpbkaaGreatDoorFacT
import Derived.Test.YtjbbhpfoohpbkaaGreatDoorRows
import Derived.Test.YtjbbhpfoohpbkaaGreatDoorCards
set_option linter.all false
open Go Go.Xv
namespace Go.Proofs.YtjbbhpfoohpbkaaGreatDoor
theorem fname0 : Tryz.prog.funcNamed Rows.checkTextsRow.func = some 3 := name_fast f_get funcs_size (by kernel_rfl)
theorem fname1 : Tryz.prog.funcNamed Rows.checkOnceRow.func = some 4 := name_fast f_get funcs_size (by kernel_rfl)
end Go.Proofs.YtjbbhpfoohpbkaaGreatDoor
